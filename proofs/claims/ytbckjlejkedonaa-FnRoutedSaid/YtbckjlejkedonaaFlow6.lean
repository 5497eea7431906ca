/-
  The search of the program.
-/
import Derived.Test.YtbckjlejkedonaaFlow5
import Derived.BigRegion
import Derived.ChangeAlike
namespace Go.Proofs.Ytbckjlejkedonaa
open Go.ChangeShapes Go.WideShapes Go.ChangeAt Go.RowKit

theorem infoSearch : (Try.prog.info? 109).map (fun i => (i.zero, i.size, i.bytes)) = some (some (.agg #[.slice none 0 0, .slice none 0 0, .slice none 0 0]), 3, 72) := by kernel_rfl
theorem blk_cell {w : World} {b : Nat} {cs : Array Value} {t : TypeId} {fr : Nat × Nat} (h : w.heap[b]? = some (.cells cs t fr)) {j : Nat} {v : Value} (hj : cs[j]? = some v) : w.cell? ⟨b, j, none⟩ = some v := by
  rw [cell_of_row w b j cs t fr h, hj]
theorem blk_frozen {w : World} {b : Nat} {cs : Array Value} {t : TypeId} (h : w.heap[b]? = some (.cells cs t (0, 0))) (j : Nat) : w.frozen? ⟨b, j, none⟩ = false := by
  simp [World.frozen?, h]
theorem blk_lt {w : World} {b : Nat} {ob : Obj} (h : w.heap[b]? = some ob) : b < w.heap.size := (Array.getElem?_eq_some_iff.1 h).1
theorem blk_gr {w w' : World} {b : Nat} {ob : Obj} (h : w.heap[b]? = some ob) (g : Gr w w') : w'.heap[b]? = some ob := (g.below.block b (blk_lt h)).trans h
theorem blk_grown {w w' : World} {b : Nat} {ob : Obj} {row : Option Nat} (h : w.heap[b]? = some ob) (g : w.grownBy w' row) (hne : row ≠ some b) : w'.heap[b]? = some ob := (g.block b (blk_lt h) (fun e => hne e.symm)).trans h
theorem blk_set {w : World} {b : Nat} {ob : Obj} (h : w.heap[b]? = some ob) {a : Addr} (hne : a.block ≠ b) (v : Value) : (w.setCell a v).heap[b]? = some ob := by
  simp [World.setCell, Array.getElem?_modify, hne, h]
/-- The rows and blocks of a search. -/
structure SiAt (w : World) (B P n1 : Nat) (O : Value) (s : St) : Prop where
  lt : B + 2 < P
  res : w.heap[B]? = some (.cells #[.slice none 0 0, .slice none 0 0, .slice none 0 0] 109 (0, 0))
  st : w.heap[P]? = some (.cells #[O, .slice none 0 0, .slice (some ⟨B + 2, 0, none⟩) n1 n1] 109 (0, 0))
  ent : w.ownsRow B 2 1 (.slice (some ⟨B + 2, 0, none⟩) n1 n1) n1 (nats s.ent)
  seen : w.ownsRow B 4 1 (.slice (some ⟨P + 1, 0, none⟩) n1 n1) n1 (bools s.seen)
  ord : w.ownsRow B 2 1 O s.ord.length (nats s.ord)
  oap : ∀ j, O.ownBlock = some j → j = B + 1 ∨ P + 2 ≤ j
theorem SiAt.gr {w w' : World} {B P n1 : Nat} {O : Value} {s : St} (q : SiAt w B P n1 O s) (hg : Gr w w') : SiAt w' B P n1 O s := ⟨q.lt, blk_gr q.res hg, blk_gr q.st hg, own_gr q.ent hg, own_gr q.seen hg, own_gr q.ord hg, q.oap⟩
theorem SiAt.big {w : World} {B P n1 : Nat} {O : Value} {s : St} (q : SiAt w B P n1 O s) : P + 1 < w.heap.size := own_block_lt q.seen rfl
theorem grown_drew {w w' : World} {ob : Obj} {row : Option Nat} (h : (w.drew.alloc ob).grownBy w' row) : (w.alloc ob).grownBy w' row := ⟨h.os, h.tape, h.output, h.size, h.block⟩
theorem grown_set (w : World) (a : Addr) (v : Value) : w.grownBy (w.setCell a v) (some a.block) :=
  ⟨rfl, rfl, rfl, by simp, fun k _ hne => by
    have : a.block ≠ k := fun e => hne (by rw [e])
    simp [World.setCell, Array.getElem?_modify, this]⟩
/-- A node is entered: two stores, an append and a store. -/
theorem SiAt.enter {w w3 : World} {B P n1 m cap g3 : Nat} {O : Value} {s : St} {o p : Nat} (q : SiAt w B P n1 O s)
    (h3 : w3.ownsRow B 2 1 (.slice (some ⟨g3, 0, none⟩) m cap) m (nats s.ord ++ [.int .i64 o])) (hm : m = s.ord.length + 1) {ob : Obj}
    (hg : (((w.setCell ⟨P + 1, o, none⟩ (.bool true)).setCell ⟨B + 2, o, none⟩ (.int .i64 p)).alloc ob).grownBy w3 O.ownBlock) (hat : O.ownBlock = some g3 ∨ g3 = w.heap.size + 1) :
    SiAt (w3.setCell ⟨P, 0, none⟩ (.slice (some ⟨g3, 0, none⟩) m cap)) B P n1 (.slice (some ⟨g3, 0, none⟩) m cap) ⟨s.ent.set o p, s.seen.set o true, s.ord ++ [o]⟩ := by
  have hlt := q.lt
  have hbig := q.big
  obtain ⟨a1, a2⟩ := own_set_bool q.seen o true
  have e1 := q.ent.kept a2 (Or.inr (by simp [Value.ownBlock]; omega))
  obtain ⟨b1, b2⟩ := own_set_nat e1 o p
  have s1 := a1.kept b2 (Or.inr (by simp [Value.ownBlock]; omega))
  have hO := q.oap
  have hg3 : g3 = B + 1 ∨ P + 2 ≤ g3 := by
    rcases hat with h | h
    · exact hO g3 h
    · omega
  have hn0 : O.ownBlock ≠ some B := fun e => by have := hO _ e; omega
  have hn2 : O.ownBlock ≠ some (B + 2) := fun e => by have := hO _ e; omega
  have hnP : O.ownBlock ≠ some P := fun e => by have := hO _ e; omega
  have hnQ : O.ownBlock ≠ some (P + 1) := fun e => by have := hO _ e; omega
  have K := grown_set w3 ⟨P, 0, none⟩ (.slice (some ⟨g3, 0, none⟩) m cap)
  refine ⟨q.lt, ?_, ?_, ?_, ?_, ?_, ?_⟩
  · exact blk_set (blk_grown (blk_gr (blk_set (blk_set q.res (by simp; omega) _) (by simp) _) ((Gr.refl _).alloc ob)) hg hn0) (by simp; omega) _
  · have h1 := blk_grown (blk_gr (blk_set (blk_set q.st (a := ⟨P + 1, o, none⟩) (by simp) (.bool true)) (a := ⟨B + 2, o, none⟩) (by simp; omega) (.int .i64 p)) ((Gr.refl _).alloc ob)) hg hnP
    simp [World.setCell, Array.getElem?_modify, h1]
  · exact ((b1.alloc ob).kept hg (Or.inr (fun e => hn2 (by rw [← e]; rfl)))).kept K (Or.inr (by simp [Value.ownBlock]; omega))
  · exact ((s1.alloc ob).kept hg (Or.inr (fun e => hnQ (by rw [← e]; rfl)))).kept K (Or.inr (by simp [Value.ownBlock]))
  · simp only [List.length_append, List.length_singleton]
    rw [← hm, nats_snoc]
    exact h3.kept K (Or.inr (by simp [Value.ownBlock]; omega))
  · intro j hj
    have : g3 = j := by simpa [Value.ownBlock] using hj
    omega

set_option maxHeartbeats 3200000 in
set_option maxRecDepth 100000 in
theorem search_any {A1 A2 A3 : Option Addr} {n1 c1 n2 c2 n3 c3 g : Nat} {LV : Value} (n : GNet) (fl : List Int) (node : Nat) (w : World) (hR : RtAt w g A1 n1 c1 A2 n2 c2 A3 n3 c3 LV) (hA : NetAt w A1 n1 c1 A2 n2 c2 n) (hF : SlAt w 1 A3 n3 c3 (ints fl)) (hok : netOk n = true) (hk : Keeps (eds n.pipes) fl) (hn : node < n1) :
    Calls Try.prog 83 #[.pointer (some ⟨g, 0, none⟩), .int .i64 node] w fun e w' => ∃ O E, e = .returned (.agg #[O, .slice none 0 0, .slice (some ⟨E, 0, none⟩) n1 n1]) ∧ (∃ A c, O = .slice A (srch (eds n.pipes) fl n1 node).ord.length c) ∧
      w'.ownsRow w.heap.size 2 1 (.slice (some ⟨E, 0, none⟩) n1 n1) n1 (nats (srch (eds n.pipes) fl n1 node).ent) ∧ w'.ownsRow w.heap.size 2 1 O (srch (eds n.pipes) fl n1 node).ord.length (nats (srch (eds n.pipes) fl n1 node).ord) ∧ O.ownBlock ≠ some E ∧ Gr w w' := by
  obtain ⟨i0, hi0, hz0, hz1, hz2⟩ := info_parts infoInt64
  obtain ⟨i1, hi1, hy0, hy1, hy2⟩ := info_parts infoBool
  obtain ⟨i2, hi2, hx0, hx1, hx2⟩ := info_parts infoSearch
  have hm1 := hA.m1
  have hm2 := hA.m2
  have hm3 := hF.small
  have hE : EsOk (eds n.pipes) n1 := by have := eds_ok hok; rw [hA.l1] at this; exact this
  have HE := Lib.hid hE
  have HA := Lib.hid hA
  have HF := Lib.hid hF
  have Hok := Lib.hid hok
  have Hk := Lib.hid hk
  have HR := Lib.hid hR
  have t0 : (0 : Int) ≤ (node : Int) := by omega
  have t1 : (node : Int) < (n1 : Int) := by omega
  have hgl := lt_of_cell hR.k0
  have a0 : ((w.alloc (.cells #[.slice none 0 0, .slice none 0 0, .slice none 0 0] 109)).alloc (.cells #[.int .i64 node] 2)).cell? ⟨g, 0, none⟩ = some (.slice A1 n1 c1) := (((Gr.refl _).alloc _).alloc _).has hR.k0
  clear hA hF hok hk hE hR
  go_enter Try.func83, Try.ntmps83
  go_wp2_with (first
    | (at_make; refine wpList_make_full _ rfl _ _ _ rfl w.heap.size 2 i0 _ 1 Try.underlying27 hi0 hz0 hz1 .i64 .i64 _ _ n1 rfl rfl rfl rfl (by rw [hz2]; omega) (by unfold maxLen; omega) (by simp; omega) ?_; intro w1 hown1 hg1; have hq1 : Gr ((w.alloc (.cells #[.slice none 0 0, .slice none 0 0, .slice none 0 0] 109)).alloc (.cells #[.int .i64 node] 2)) w1 := (Gr.refl _).grown hg1 (fun _ e => by cases e); have Ho1 := Lib.hid hown1; have a1 : ∀ ob, (w1.alloc ob).cell? ⟨g, 0, none⟩ = some (.slice A1 n1 c1) := fun ob => ((hq1.trans ((Gr.refl _).alloc _))).has a0; clear hown1)
    | (at_make; refine wpList_make_full _ rfl _ _ _ rfl w.heap.size 4 i1 _ 1 Try.underlying119 hi1 hy0 hy1 .i64 .i64 _ _ n1 rfl rfl rfl rfl (by rw [hy2]; omega) (by unfold maxLen; omega) (by have := hq1.size; simp at this; simp; omega) ?_; intro w2 hown2 hg2; have hq2 := Gr.of_grown hg2; have hown2' : w2.ownsRow w.heap.size 4 1 (.slice (some ⟨w1.heap.size + 1, 0, none⟩) n1 n1) n1 (bools (List.replicate n1 false)) := (by have := own_cells_eq hown2 (made_bools n1); simpa using this); obtain ⟨d0, d1⟩ := own_bool hown2' (k := node) (x := false) (by simp [hn]) hn; have Ho2 := Lib.hid hown2'; clear hown2 hown2'))
  generalize hw3 : World.setCell w2 _ _ = w3
  have z1 := hq1.size
  have o1 : w1.ownsRow w.heap.size 2 1 (.slice (some ⟨w.heap.size + 2, 0, none⟩) n1 n1) n1 (nats (List.replicate n1 0)) := by
    have := own_cells_eq Ho1.out (made_nats n1)
    simpa using this
  have l1 : w.heap.size + 2 < w1.heap.size := own_block_lt o1 rfl
  obtain ⟨s1, s2⟩ := own_set_bool Ho2.out node true
  have S0 : SiAt w3 w.heap.size w1.heap.size n1 (.slice (some ⟨w.heap.size + 1, 0, none⟩) 1 1) (sst (eds n.pipes) fl n1 node 0) := by
    rw [← hw3]
    refine ⟨l1, ?_, ?_, ?_, s1, ?_, ?_⟩
    · exact blk_set (blk_gr (blk_gr (blk_gr (blk_gr (heap_alloc_new w _) ((Gr.refl _).alloc _)) hq1) ((Gr.refl _).alloc _)) hq2) (by simp; omega) _
    · exact blk_set (blk_gr (heap_alloc_new w1 _) hq2) (by simp) _
    · exact (own_gr (o1.alloc _) hq2).kept s2 (Or.inr (by simp [Value.ownBlock]; omega))
    · have q := World.ownsRow_lit (w.alloc (.cells #[.slice none 0 0, .slice none 0 0, .slice none 0 0] 109)) (e := 2) (size := 1) #[.int .i64 node] 1 (Nat.le_refl _) (by unfold maxLen; omega) rfl
      have q1 := own_gr (own_gr (own_gr q hq1) ((Gr.refl _).alloc _)) hq2
      have hsz : (w.alloc (.cells #[.slice none 0 0, .slice none 0 0, .slice none 0 0] 109)).heap.size = w.heap.size + 1 := by simp
      rw [hsz] at q1
      exact own_base (q1.kept s2 (Or.inr (by simp [Value.ownBlock]; omega))) (by omega)
    · intro j hj
      left
      simpa [Value.ownBlock] using hj.symm
  have hg3 : Gr w w3 := by rw [← hw3]; exact (((((Gr.refl _).alloc _).alloc _).trans hq1).alloc _).trans hq2 |>.grown s2 (fun _ e => by injection e with e; omega)
  obtain ⟨B, hB⟩ : ∃ B, B = w.heap.size := ⟨_, rfl⟩
  obtain ⟨P, hP⟩ : ∃ P, P = w1.heap.size := ⟨_, rfl⟩
  rw [← hB, ← hP] at S0 ⊢
  have HS0 := Lib.hid S0
  have hBP : B + 2 < P := by omega
  have HB := Lib.hid hB
  have hBw : w.heap.size ≤ B := Nat.le_of_eq hB.symm
  clear S0 hw3 d0 d1 Ho1 Ho2 hg1 hg2 o1 s1 s2 hq1 hq2 z1 a0 a1 hP l1 hB
  go_loopw [7] (fun i wr => ∃ k : Nat, ∃ A c, k ≤ (sst (eds n.pipes) fl n1 node k).ord.length ∧ i = .int .i64 k ∧ SiAt wr B P n1 (.slice A (sst (eds n.pipes) fl n1 node k).ord.length c) (sst (eds n.pipes) fl n1 node k) ∧ Gr w wr) (fun i _ => n1 - (intOf i).toNat)
  case atStart => exact ⟨0, _, _, Nat.zero_le _, rfl, HS0.out, hg3⟩
  case round =>
    obtain ⟨k, A, c, hk, rfl, hS, hgr⟩ := hrel
    have hlen : (sst (eds n.pipes) fl n1 node k).ord.length ≤ n1 := (inv_sst HE.out hn k).len
    have HS := Lib.hid hS
    obtain ⟨L, hL⟩ : ∃ L, L = (sst (eds n.pipes) fl n1 node k).ord.length := ⟨_, rfl⟩
    rw [← hL] at hk hlen
    have HL := Lib.hid hL
    have st0 := blk_cell hS.st (j := 0) rfl
    rw [← hL] at st0
    clear hS hL hg3
    by_cases hlt : k < L
    · obtain ⟨v, hv⟩ : ∃ v, (sst (eds n.pipes) fl n1 node k).ord[k]? = some v := ⟨_, List.getElem?_eq_getElem (by rw [← HL.out]; exact hlt)⟩
      have hso := HS.out.ord
      rw [← HL.out] at hso
      obtain ⟨go, rfl, hgo1, hgo2⟩ := own_form hso (by omega)
      have hvi : ((sst (eds n.pipes) fl n1 node k).ord.map fun (x : Nat) => (x : Int))[k]? = some (v : Int) := by simp [hv]
      obtain ⟨f0, _⟩ := own_int hso hvi
      have Hv := Lib.hid hv
      have t2 : (0 : Int) ≤ (k : Int) := by omega
      have t3 : (k : Int) < (L : Int) := by omega
      have r0 := (HR.out.gr hgr).k0
      have r1 := (HR.out.gr hgr).k1
      clear hso hvi hv
      go_wp2_with fail
      refine (pipesAt_any n v _ (HA.out.gr hgr) Hok.out).mono ?_
      rintro e w4 ⟨Aa, ma, ca, rfl, hma, hoa, hga⟩
      have hoa' := Lib.hid hoa
      have Hma := Lib.hid hma
      have hvo := (inv_sst (fl := fl) HE.out hn k)
      have hvm : v ∈ (sst (eds n.pipes) fl n1 node k).ord := List.mem_of_getElem? Hv.out
      have hvN : v < n1 := hvo.lt v hvm
      have Hvm := Lib.hid hvm
      have Hvo := Lib.hid hvo
      have hgw4 : Gr w w4 := hgr.trans hga
      have hS4 := HS.out.gr hga
      have HS4 := Lib.hid hS4
      have hbig := HS.out.big
      have hoaB : w4.ownsRow (P + 2) 2 1 (.slice Aa ma ca) ma (nats (atN (eds n.pipes) v)) := own_base hoa (by omega)
      have hapart : (Value.slice Aa ma ca).ownBlock ≠ some go := by
        intro e
        have := own_base_le hoa e
        omega
      have HoaB := Lib.hid hoaB
      have Hap := Lib.hid hapart
      have hma40 : ma ≤ 1048576 := by
        have := atTo_len (eds n.pipes) v (eds n.pipes).length
        have e1 : (eds n.pipes).length = n2 := by rw [eds, List.length_map]; exact HA.out.l2
        have e2 : atN (eds n.pipes) v = atTo (eds n.pipes) v (eds n.pipes).length := rfl
        rw [← e2, e1, ← Hma.out] at this
        omega
      clear hvo hvm hS4 hoaB hapart hoa' f0 hga HS hoa hma r0 r1 st0
      go_wp2_with fail
      go_loopw [51] (fun j wr => ∃ i : Nat, ∃ A c, i ≤ ma ∧ j = .int .i64 i ∧ SiAt wr B P n1 (.slice A (innTo (eds n.pipes) fl v (sst (eds n.pipes) fl n1 node k) i).ord.length c) (innTo (eds n.pipes) fl v (sst (eds n.pipes) fl n1 node k) i) ∧ wr.ownsRow (P + 2) 2 1 (.slice Aa ma ca) ma (nats (atN (eds n.pipes) v)) ∧ (∀ j, (Value.slice A (innTo (eds n.pipes) fl v (sst (eds n.pipes) fl n1 node k) i).ord.length c).ownBlock = some j → (Value.slice Aa ma ca).ownBlock ≠ some j) ∧ Gr w wr) (fun j _ => ma - (intOf j).toNat)
      case atStart =>
        have e0 : innTo (eds n.pipes) fl v (sst (eds n.pipes) fl n1 node k) 0 = sst (eds n.pipes) fl n1 node k := rfl
        exact ⟨0, some ⟨go, 0, none⟩, c, Nat.zero_le _, rfl, by rw [e0]; exact HS4.out, HoaB.out, fun j hj => by simp [Value.ownBlock] at hj; rw [← hj]; exact Hap.out, hgw4⟩
      case round =>
        obtain ⟨i, A, c', hi, rfl, hS, hat, hap, hgi⟩ := hrel
        have hI := (inv_innTo HE.out Hvo.out Hvm.out i).1
        have hIk : (innTo (eds n.pipes) fl v (sst (eds n.pipes) fl n1 node k) i).ord[k]? = some v := foldl_vis_ord _ _ Hv.out
        clear hgw4
        by_cases hil : i < ma
        · obtain ⟨p, hp⟩ : ∃ p, (atN (eds n.pipes) v)[i]? = some p := ⟨_, List.getElem?_eq_getElem (by rw [← Hma.out]; exact hil)⟩
          obtain ⟨hpl, htv⟩ := mem_atN.1 (List.mem_of_getElem? hp)
          obtain ⟨x, hx⟩ : ∃ x, n.pipes[p]? = some x := ⟨_, List.getElem?_eq_getElem (by simpa [eds] using hpl)⟩
          obtain ⟨f, hf⟩ : ∃ f, fl[p]? = some f := ⟨_, List.getElem?_eq_getElem (by rw [Hk.out.len]; exact hpl)⟩
          obtain ⟨x1, x2, _⟩ := pipeOk_all ((netOk_all Hok.out).2 p x hx)
          have hed := eds_at hx
          rw [hed] at htv
          have hstep := innTo_step (fl := fl) (s := sst (eds n.pipes) fl n1 node k) hp
          obtain ⟨s, hs⟩ : ∃ s, s = innTo (eds n.pipes) fl v (sst (eds n.pipes) fl n1 node k) i := ⟨_, rfl⟩
          rw [← hs] at hS hI hIk hstep hap
          obtain ⟨ga, rfl, hga1, hga2⟩ := own_form hat (by omega)
          have hpi : ((atN (eds n.pipes) v).map fun (x : Nat) => (x : Int))[i]? = some (p : Int) := by simp [hp]
          obtain ⟨y0, _⟩ := own_int hat hpi
          obtain ⟨go', rfl, hgo1', hgo2'⟩ := own_form hS.ord (by have := (List.getElem?_eq_some_iff.1 hIk).1; omega)
          have hsl := (List.getElem?_eq_some_iff.1 hIk).1
          have r0 := (HR.out.gr hgi).k0
          have r1 := (HR.out.gr hgi).k1
          obtain ⟨b, oo, rfl, hb, p0, p1, p2, p3, p4⟩ := (HA.out.pipes.gr hgi).pp hx
          have hpn : p < n2 := by have h1 := (List.getElem?_eq_some_iff.1 hx).1; have h2 := HA.out.l2; omega
          have HSs := Lib.hid hS
          have HI := Lib.hid hI
          have Hstep := Lib.hid hstep
          have Hat := Lib.hid hat
          have Hap2 := Lib.hid hap
          have Hx := Lib.hid hx
          have Hf := Lib.hid hf
          have Htv := Lib.hid htv
          have u0 : (0 : Int) ≤ (i : Int) := by omega
          have u1 : (i : Int) < (ma : Int) := by omega
          have hslN : s.ord.length ≤ n1 := hI.len
          clear hS hI hstep hat hap hx hf htv hp hpi hs hIk
          have hd1 : decide ((i : Int) < (ma : Int)) = true := decide_eq_true u1
          have x3 := x1.1
          have x4 := x2.1
          go_wp2_with fail
          refine (otherEnd_any x v _ x3 x4).mono ?_
          rintro e w5 ⟨rfl, hw5⟩
          have hoN : oth (edOf x) v < n1 := by
            obtain ⟨a1, a2, _⟩ := HE.out.at_ p (edOf x) (by rw [eds, List.getElem?_map, Hx.out]; rfl)
            unfold oth
            split <;> omega
          have hS5 := HSs.out.gr hw5
          have hb := get_of_ltB (l := s.seen) (k := oth (edOf x) v) (by rw [HI.out.sl]; exact hoN)
          obtain ⟨b, hbe⟩ : ∃ b, b = s.seen.getD (oth (edOf x) v) true := ⟨_, rfl⟩
          rw [← hbe] at hb
          obtain ⟨z0, z1⟩ := own_bool hS5.seen hb hoN
          have Hbe := Lib.hid hbe
          clear hb hbe
          obtain ⟨o, ho⟩ : ∃ o, o = oth (edOf x) v := ⟨_, rfl⟩
          rw [← ho] at hoN z0 z1 Hbe
          have Hoo := Lib.hid ho
          rw [← ho]
          clear ho
          have v0 : (0 : Int) ≤ (o : Int) := by omega
          have v1 : (o : Int) < (n1 : Int) := by omega
          have hgi5 : Gr w w5 := hgi.trans hw5
          clear p0 p1 p2 p3 p4 r0 r1 y0 hgi
          cases b with
          | true =>
            have hv6 : vis (eds n.pipes) fl v s p = s := by rw [vis, if_neg (by rw [goes, eds_at Hx.out, ← Hoo.out, ← Hbe.out]; simp)]
            have Hv6 := Lib.hid hv6
            clear hv6
            go_wp2_with fail
            go_roundw
            case rel => exact ⟨i + 1, _, _, by omega, by go_num, by rw [Hstep.out, Hv6.out]; exact HSs.out.gr hw5, own_gr Hat.out hw5, by rw [Hstep.out, Hv6.out]; exact Hap2.out, hgi5⟩
            case measure => simp [intOf]; omega
          | false =>
            have hfb := Hk.out.at_ p (edOf x) (by rw [eds, List.getElem?_map, Hx.out]; rfl)
            have hlb := HE.out.at_ p (edOf x) (by rw [eds, List.getElem?_map, Hx.out]; rfl)
            have hfe : fl.getD p 0 = f := by rw [List.getD_eq_getElem?_getD, Hf.out]; rfl
            rw [hfe] at hfb
            have hfb2 : -1000000000 ≤ f ∧ f ≤ 1000000000 := by omega
            clear hfb hlb hfe
            go_wp2_with fail
            refine (room_any n fl p v x f _ (HR.out.gr hgi5) (HA.out.gr hgi5) (HF.out.gr hgi5) Hok.out Hx.out Hf.out hfb2).mono ?_
            rintro e w6 ⟨rfl, hw6⟩
            obtain ⟨r, hr⟩ : ∃ r, r = room (eds n.pipes) fl p v := ⟨_, rfl⟩
            rw [← hr]
            have Hr := Lib.hid hr
            clear hr
            have hg6 : Gr wr w6 := hw5.trans hw6
            have hgi6 : Gr w w6 := hgi5.trans hw6
            have HS6 := Lib.hid (HSs.out.gr hg6)
            by_cases hr0 : 0 < r
            · have hgoes : goes (eds n.pipes) fl v s p = true := by rw [goes, eds_at Hx.out, ← Hoo.out, ← Hbe.out, ← Hr.out]; simp [hr0]
              have hvis : vis (eds n.pipes) fl v s p = ⟨s.ent.set o p, s.seen.set o true, s.ord ++ [o]⟩ := by rw [vis, if_pos hgoes, eds_at Hx.out, ← Hoo.out]
              have Hvis := Lib.hid hvis
              clear hgoes hvis
              obtain ⟨qb, qf⟩ := own_bool HS6.out.seen (k := o) (x := false) (by rw [Hbe.out]; exact get_of_ltB (by rw [HI.out.sl]; exact hoN)) hoN
              have hen : (s.ent.map fun (x : Nat) => (x : Int))[o]? = some ((s.ent.getD o 0 : Nat) : Int) := by
                have := HI.out.el
                simp [List.getD_eq_getElem?_getD, this, hoN]
              obtain ⟨e0, ef⟩ := own_int HS6.out.ent hen
              have st0 := blk_cell HS6.out.st (j := 0) rfl
              have st2 := blk_cell HS6.out.st (j := 2) rfl
              have stf := blk_frozen HS6.out.st 0
              have hbig6 := HS6.out.big
              have hoap := HS6.out.oap go' rfl
              clear hen
              obtain ⟨X, hX⟩ : ∃ X, X = ((w6.setCell ⟨P + 1, o, none⟩ (.bool true)).setCell ⟨B + 2, o, none⟩ (.int .i64 p)).drew := ⟨_, rfl⟩
              have hO : X.ownsRow B 2 1 (.slice (some ⟨go', 0, none⟩) s.ord.length c') s.ord.length (nats s.ord) := by
                rw [hX]
                exact ((HS6.out.ord.kept (grown_set _ _ _) (Or.inr (by simp [Value.ownBlock]; omega))).kept (grown_set _ _ _) (Or.inr (by simp [Value.ownBlock]; omega))).drew
              have hOA : X.ownsRow (P + 2) 2 1 (.slice (some ⟨ga, 0, none⟩) ma ca) ma (nats (atN (eds n.pipes) v)) := by
                rw [hX]
                exact (ownsRow_setCell_below (ownsRow_setCell_below (own_gr Hat.out hg6) (by simp) _) (by simp; omega) _).drew
              have hPX : X.heap[P]? = some (.cells #[.slice (some ⟨go', 0, none⟩) s.ord.length c', .slice none 0 0, .slice (some ⟨B + 2, 0, none⟩) n1 n1] 109 (0, 0)) := by
                rw [hX]
                exact blk_set (blk_set HS6.out.st (by simp) _) (by simp; omega) _
              have hXs : X.heap.size = w6.heap.size := by rw [hX]; simp
              have hXs1 : w6.heap.size ≤ X.heap.size := by omega
              have hXs2 : X.heap.size ≤ w6.heap.size := by omega
              clear hXs
              have hgX : Gr w X := by rw [hX]; exact ((hgi6.setCell (by simp; omega) _).setCell (by simp; omega) _).drew
              have hgal : ga < w6.heap.size := Nat.lt_of_lt_of_le hga2 hg6.size
              have hgl6 : go' < w6.heap.size := own_block_lt HS6.out.ord rfl
              have hgago : ga ≠ go' := fun e => Hap2.out go' rfl (by rw [e]; rfl)
              have HO := Lib.hid hO
              have HOA := Lib.hid hOA
              have HPX := Lib.hid hPX
              have HX := Lib.hid hX
              go_wp2_with fail
              go_region
              rw [← hX]
              have st0' : X.cell? ⟨P, 0, none⟩ = some (.slice (some ⟨go', 0, none⟩) s.ord.length c') := blk_cell hPX (j := 0) rfl
              clear hX hO hOA hPX st0 st2 stf qb qf e0 ef
              go_wp2_with (at_builtin; refine wpList_append_lies _ rfl _ _ _ rfl B 2 i0 _ 1 8 Try.underlying27 hi0 hz0 hz1 hz2 rfl (by omega) (.slice (some ⟨go', 0, none⟩) s.ord.length c') s.ord.length _ rfl (HO.out.alloc _) ⟨X.heap.size, 0, none⟩ 1 1 [.int .i64 o] rfl rfl (World.news_of_block (cs := #[.int .i64 o]) (t := 2) (fr := (0, 0)) (heap_alloc_new X _)) (by simp [Value.oneCell']) (by omega) (by unfold maxLen; omega) (by omega) (by simp; omega) (X.heap.size + 1) (by simp) ?_; intro g3 cap w7 hown7 hgrow7 hat7 hlt7; have HP7 := blk_grown (blk_gr HPX.out ((Gr.refl _).alloc _)) hgrow7 (by simp [Value.ownBlock]; omega); have s70 := blk_cell HP7 (j := 0) rfl; have s7f := blk_frozen HP7 0)
              have hgrow := hgrow7
              rw [HX.out] at hgrow
              have hat8 : (Value.slice (some ⟨go', 0, none⟩) s.ord.length c').ownBlock = some g3 ∨ g3 = w6.heap.size + 1 := by
                rcases hat7 with h | h
                · exact Or.inl h
                · right; omega
              have hS7 := HS6.out.enter hown7 rfl (grown_drew hgrow) hat8
              rw [← Hvis.out, ← Hstep.out] at hS7
              have hap7 : ga ≠ g3 := by
                rcases hat7 with h | h
                · simp [Value.ownBlock] at h; omega
                · omega
              have hA7 := ((HOA.out.alloc _).kept hgrow7 (Or.inr (by simp [Value.ownBlock]; omega))).kept (grown_set w7 ⟨P, 0, none⟩ (.slice (some ⟨g3, 0, none⟩) (s.ord.length + 1) cap)) (Or.inr (by simp [Value.ownBlock]; omega))
              have hgw7 : Gr w (w7.setCell ⟨P, 0, none⟩ (.slice (some ⟨g3, 0, none⟩) (s.ord.length + 1) cap)) := ((hgX.alloc _).grown hgrow7 (fun _ e => by simp [Value.ownBlock] at e; omega)).setCell (by simp; omega) _
              have HS7 := Lib.hid hS7
              have HA7 := Lib.hid hA7
              have hlen7 : s.ord.length + 1 = (innTo (eds n.pipes) fl v (sst (eds n.pipes) fl n1 node k) (i + 1)).ord.length := by rw [Hstep.out, Hvis.out]; simp
              have Hlen7 := Lib.hid hlen7
              clear hS7 hA7 hown7 hgrow7 hat7 hlen7 hgrow hat8 HP7
              go_wp2_with fail
              go_roundw
              case rel => exact ⟨i + 1, some ⟨g3, 0, none⟩, cap, by omega, by go_num, by rw [← Hlen7.out]; exact HS7.out, HA7.out, fun j hj e => by simp [Value.ownBlock] at hj e; omega, hgw7⟩
              case measure => simp [intOf]; omega
            · have hv6 : vis (eds n.pipes) fl v s p = s := by rw [vis, if_neg (by rw [goes, ← Hr.out]; simp [hr0])]
              have Hv6 := Lib.hid hv6
              clear hv6
              go_wp2_with fail
              go_roundw
              case rel => exact ⟨i + 1, _, _, by omega, by go_num, by rw [Hstep.out, Hv6.out]; exact HSs.out.gr hg6, own_gr Hat.out hg6, by rw [Hstep.out, Hv6.out]; exact Hap2.out, hgi6⟩
              case measure => simp [intOf]; omega
        · obtain rfl : i = ma := by omega
          have e1 : innTo (eds n.pipes) fl v (sst (eds n.pipes) fl n1 node k) i = sst (eds n.pipes) fl n1 node (k + 1) := by
            rw [sst_step Hv.out, ← innTo_full, ← Hma.out]
          rw [e1] at hS hIk
          have hkl := (List.getElem?_eq_some_iff.1 hIk).1
          have HSs := Lib.hid hS
          clear hS hI hIk hat hap e1
          have hd1 : decide ((i : Int) < (i : Int)) = false := decide_eq_false (by omega)
          go_wp2_with fail
          go_roundw
          case rel => exact ⟨k + 1, _, _, by omega, by go_num, HSs.out, hgi⟩
          case measure => simp [intOf]; omega
    · obtain rfl : k = L := by omega
      have hend : sst (eds n.pipes) fl n1 node k = srch (eds n.pipes) fl n1 node := srch_eq HE.out hn HL.out.symm
      have Hend := Lib.hid hend
      have q := HS.out
      rw [← HL.out] at q
      have st1 := blk_cell q.st (j := 1) rfl
      have st2 := blk_cell q.st (j := 2) rfl
      have re0 := blk_cell q.res (j := 0) rfl
      have re1 := blk_cell q.res (j := 1) rfl
      have re2 := blk_cell q.res (j := 2) rfl
      have rf0 := blk_frozen q.res 0
      have rf1 := blk_frozen q.res 1
      have rf2 := blk_frozen q.res 2
      have Hq := Lib.hid q
      clear hend q
      go_wp2_with fail
      have q := Hq.out
      refine bodyPost_ret (v := .agg #[.slice A k c, .slice none 0 0, .slice (some ⟨B + 2, 0, none⟩) n1 n1]) (by simp [results, Try.results83, go_sem, re0, re1, re2]) rfl ⟨.slice A k c, B + 2, rfl, ?_, ?_, ?_, ?_, ?_⟩
      · rw [← Hend.out, ← HL.out]; exact ⟨_, _, rfl⟩
      · rw [← Hend.out]
        exact own_base ((((q.ent.kept (grown_set _ _ _) (Or.inr (by simp [Value.ownBlock]))).kept (grown_set _ _ _) (Or.inr (by simp [Value.ownBlock]))).kept (grown_set _ _ _) (Or.inr (by simp [Value.ownBlock])))) hBw
      · rw [← Hend.out, ← HL.out]
        have hq := q.ord
        rw [← HL.out] at hq
        have hne : (Value.slice A k c).ownBlock ≠ some B := fun e => by have := q.oap _ e; omega
        exact own_base (((hq.kept (grown_set _ _ _) (Or.inr hne)).kept (grown_set _ _ _) (Or.inr hne)).kept (grown_set _ _ _) (Or.inr hne)) hBw
      · intro e; have := q.oap _ e; omega
      · exact ((hgr.setCell (by simp; omega) _).setCell (by simp; omega) _).setCell (by simp; omega) _
end Go.Proofs.Ytbckjlejkedonaa
