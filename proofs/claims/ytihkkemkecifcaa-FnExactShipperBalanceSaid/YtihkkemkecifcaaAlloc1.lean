/-
  Allocation: the reference.
-/
import Derived.Test.YtihkkemkecifcaaShare1
namespace Go.Proofs.Ytihkkemkecifcaa
open Go.ChangeShapes Go.WideShapes Go.ChangeAt Go.RowKit

def addAtK (a b : List Int) (s : Int) (k : Nat) : Int := a.getD k 0 + s * b.getD k 0
theorem addS_take {a b : List Int} {s : Int} (h : b.length = a.length) {k : Nat} (hk : k < a.length) : (addS a b s).take (k + 1) = (addS a b s).take k ++ [addAtK a b s k] := by
  have h1 : (addS a b s)[k]? = some (addAtK a b s k) := by
    rw [get_of_lt (by rw [addS_len h]; exact hk), addS_getD s h]; rfl
  rw [List.take_add_one, h1]; rfl
set_option maxHeartbeats 1600000 in
set_option maxRecDepth 100000 in
theorem l05Add_any {A1 A2 : Option Addr} {m c1 c2 : Nat} (a b : List Int) (s : Int) (w : World) (hA : SlAt w 1 A1 m c1 (ints a)) (hB : SlAt w 1 A2 m c2 (ints b)) (hs : s = 1 ∨ s = -1) (ha : ∀ i, -1000000000000 ≤ a.getD i 0 ∧ a.getD i 0 ≤ 1000000000000) (hb : ∀ i, -1000000000000 ≤ b.getD i 0 ∧ b.getD i 0 ≤ 1000000000000) :
    Calls Try.prog 54 #[.slice A1 m c1, .slice A2 m c2, .int .i64 s] w fun e w' => ∃ g d, e = .returned (.slice (some ⟨g, 0, none⟩) m d) ∧ w'.ownsRow w.heap.size 2 1 (.slice (some ⟨g, 0, none⟩) m d) m (ints (addS a b s)) ∧ Gr w w' := by
  obtain ⟨i0, hi0, hz0, hz1, hz2⟩ := info_parts infoInt64
  have hla := hA.sl.ilen
  have hlb := hB.sl.ilen
  have hm := hA.small
  have HA := Lib.hid hA
  have HB := Lib.hid hB
  have Hla := Lib.hid hla
  have Hlb := Lib.hid hlb
  have Ha := Lib.hid ha
  have Hb := Lib.hid hb
  clear hA hB hla hlb ha hb
  go_enter Try.func54, Try.ntmps54
  go_wp2_with fail
  go_loopw [7, 8] (fun o i wr => ∃ k : Nat, k ≤ m ∧ i = .int .i64 k ∧ (∃ g c, o = .slice (some ⟨g, 0, none⟩) k c ∧ wr.ownsRow w.heap.size 2 1 (.slice (some ⟨g, 0, none⟩) k c) k (ints ((addS a b s).take k))) ∧ Gr w wr) (fun _ i _ => m - (intOf i).toNat)
  case atStart => exact ⟨0, Nat.zero_le _, rfl, ⟨_, _, rfl, World.ownsRow_lit w #[] 0 (Nat.le_refl _) (by unfold maxLen; omega) rfl⟩, (Gr.refl _).alloc _⟩
  case round =>
    obtain ⟨k, hk, rfl, ⟨g1, c3, rfl, hownr⟩, hgr⟩ := hrel
    have Hown := Lib.hid hownr
    clear hownr
    by_cases hlt : k < m
    · have hxa := get_of_lt (l := a) (k := k) (by have := Hla.out; omega)
      have hxb := get_of_lt (l := b) (k := k) (by have := Hlb.out; omega)
      have hba := Ha.out k
      have hbb := Hb.out k
      have hst := addS_take (a := a) (b := b) (s := s) (by have := Hla.out; have := Hlb.out; omega) (k := k) (by have := Hla.out; omega)
      rw [addAtK] at hst
      obtain ⟨x, hx⟩ : ∃ x, x = a.getD k 0 := ⟨_, rfl⟩
      obtain ⟨y, hy⟩ : ∃ y, y = b.getD k 0 := ⟨_, rfl⟩
      rw [← hx] at hxa hba hst
      rw [← hy] at hxb hbb hst
      obtain ⟨bA, oA, rfl, hb1, e1⟩ := HA.out.sl.int hxa
      obtain ⟨bB, oB, rfl, hb2, e2⟩ := HB.out.sl.int hxb
      replace e1 := hgr.has e1
      replace e2 := hgr.has e2
      have hbase := hgr.size
      have Hst := Lib.hid hst
      have hp : IntKind.i64.wrap (s * y) = s * y := IntWalk.i64_in _ (by rcases hs with rfl | rfl <;> omega)
      have hsy : -1000000000000 ≤ s * y ∧ s * y ≤ 1000000000000 := by rcases hs with rfl | rfl <;> omega
      obtain ⟨p, hpe⟩ : ∃ p, p = s * y := ⟨_, rfl⟩
      rw [← hpe] at hp hsy Hst
      have hq : IntKind.i64.wrap (x + p) = x + p := IntWalk.i64_in _ (by omega)
      have t1 : (k : Int) < (m : Int) := by omega
      have t0 : (0 : Int) ≤ (k : Int) := by omega
      have hp' : s * y = p := hpe.symm
      clear hxa hxb hx hy hst hpe
      have hfar : ∀ j, (Value.slice (some ⟨g1, 0, none⟩) k c3).ownBlock = some j → j ≠ bA ∧ j ≠ bB := by
        intro j hj
        have e1 := own_base_le Hown.out hj
        omega
      have hnew : ∀ o : Obj, (wr.alloc o).heap[wr.heap.size]? = some o := fun o => heap_alloc_new wr o
      go_wp2_with fail
      go_region_held3 (fun w' => w'.cell? ⟨bA, oA + k, none⟩ = some (.int .i64 x) ∧ w'.cell? ⟨bB, oB + k, none⟩ = some (.int .i64 y))
        (first
          | go_keep
          | (go_split_ands
             refine ⟨?_, ?_⟩
             · (rw [hgrow.cell_far _ (by simp; omega) (fun e => (hfar _ e.symm).1 rfl)]; assumption)
             · (rw [hgrow.cell_far _ (by simp; omega) (fun e => (hfar _ e.symm).2 rfl)]; assumption)))
        ((refine step_append_lies _ (by rfl) _ _ _ (by rfl) w.heap.size 2 i0 _ 1 8 Try.underlying31 hi0 hz0 hz1 hz2 rfl (by omega) _ k _ (by rfl) ((Hown.out.alloc _).drew) ⟨wr.heap.size, 0, none⟩ 1 1 [.int .i64 (x + p)] (by rfl) (by rfl) (World.news_of_block (cs := #[.int .i64 (x + p)]) (t := 2) (fr := (0, 0)) (hnew _)) (by simp [Value.oneCell']) (by omega) (by unfold maxLen; omega) (by omega) (by simp; omega) (wr.heap.size + 1) (by simp) ?_; intro gg cap w2 hown1 hgrow hat hlt2))
      clear hp hq hfar
      have Ho2 := Lib.hid (own_cells_eq hown1 (ints_snoc _ (x + p)).symm)
      clear hown1
      go_wp2_with fail
      go_roundw
      case rel =>
        refine ⟨k + 1, by omega, by go_num, ⟨_, _, rfl, ?_⟩, ?_⟩
        · rw [Hst.out]; exact Ho2.out
        · exact ((hgr.alloc _).drew).grown hgrow (fun j hj => own_base_le Hown.out hj)
      case measure => simp [intOf]; omega
    · obtain rfl : k = m := by omega
      go_wp2_with fail
      go_ret
      refine ⟨_, _, rfl, ?_, hgr⟩
      have h := Hown.out
      rw [List.take_of_length_le (by rw [addS_len (by have := Hla.out; have := Hlb.out; omega), Hla.out]; exact Nat.le_refl _)] at h
      exact h
theorem shares_bnd {t : Int} {ws : List Int} (ht : 0 ≤ t ∧ t ≤ 30000) (hw : ∀ z ∈ ws, 0 ≤ z ∧ z ≤ 30000) (hS : 0 < ws.sum) (hl : ws.length ≤ 40) (i : Nat) : 0 ≤ (shares t ws).getD i 0 ∧ (shares t ws).getD i 0 ≤ 900000040 := by
  have h1 := shIter_bnd (B := 900000000) (s := (shOut t ws.sum ws, shRest t ws.sum ws)) (shOut_bnd ht hS hw) (shLeft t ws.sum ws).toNat i
  have h2 := left_count (t := t) hS
  have h3 := List.countP_le_length (p := fun z : Int => decide (0 < z)) (l := shRest t ws.sum ws)
  have h4 : (shRest t ws.sum ws).length = ws.length := by simp [shRest]
  rw [shares]
  omega
theorem rd_abs {nn : Int} {rs : List GRd} (h : rdsOk nn rs = true) {k : Nat} {y : GRd} (hy : rs[k]? = some y) : 0 ≤ sgn y.amount * y.amount ∧ sgn y.amount * y.amount ≤ 30000 := by
  have h1 := (rdOk_all ((rdsOk_all h).2 k y hy)).2.1
  unfold sgn
  split <;> omega
theorem alTo_bnd {nn nn' : Int} {os : List GOrd} {rs : List GRd} (h : ordsOk nn os = true) (hr : rdsOk nn' rs = true) (k : Nat) (i : Nat) : -(1000000000 * (k : Int)) ≤ (alTo os rs k).getD i 0 ∧ (alTo os rs k).getD i 0 ≤ 1000000000 * (k : Int) := by
  induction k with
  | zero =>
    have : (alTo os rs 0).getD i 0 = 0 := by
      show (List.replicate os.length (0 : Int)).getD i 0 = 0
      rw [List.getD_eq_getElem?_getD, List.getElem?_replicate]; split <;> rfl
    omega
  | succ k ih =>
    cases hy : rs[k]? with
    | none =>
      have hl : rs.length ≤ k := List.getElem?_eq_none_iff.1 hy
      rw [alTo, List.take_of_length_le (by omega)]
      rw [alTo, List.take_of_length_le hl] at ih
      omega
    | some y =>
      rw [alTo_step hy, alStep]
      split
      · omega
      · rename_i h0
        have hw := wAt_bnd h y
        have hS := sum_pos_of (fun z hz => (hw z hz).1) h0
        have hb := shares_bnd (rd_abs hr hy) hw hS (by rw [wAt_len]; exact (ordsOk_all h).1) i
        rw [addS_getD _ (by rw [shares_len h h0, alTo_len h])]
        rcases sgn_cases y.amount with e | e <;> rw [e] at hb ⊢ <;> omega
theorem unTo_hit {os : List GOrd} {rs : List GRd} {k : Nat} {y : GRd} (hy : rs[k]? = some y) (h : (wAt os y).sum = 0) : unTo os rs (k + 1) = unTo os rs k ++ [(k : Int)] := by
  have e : rs.getD k ⟨0, 0⟩ = y := by rw [List.getD_eq_getElem?_getD, hy]; rfl
  rw [unTo, e, if_pos h]
theorem unTo_miss {os : List GOrd} {rs : List GRd} {k : Nat} {y : GRd} (hy : rs[k]? = some y) (h : ¬ (wAt os y).sum = 0) : unTo os rs (k + 1) = unTo os rs k := by
  have e : rs.getD k ⟨0, 0⟩ = y := by rw [List.getD_eq_getElem?_getD, hy]; rfl
  rw [unTo, e, if_neg h]
theorem unTo_len (os : List GOrd) (rs : List GRd) (k : Nat) : (unTo os rs k).length ≤ k := by
  induction k with
  | zero => exact Nat.le_refl _
  | succ k ih =>
    rw [unTo]
    split
    · simp; omega
    · omega
set_option maxHeartbeats 3200000 in
set_option maxRecDepth 100000 in
theorem l28Allocate_any {A4 A3 : Option Addr} {n4 c4 n3 c3 : Nat} (nn nn' : Int) (os : List GOrd) (rs : List GRd) (w : World) (hO : SlAt w 4 A4 n4 c4 (os.flatMap GOrd.cells)) (hL : SlAt w 2 A3 n3 c3 (rs.flatMap GRd.cells)) (hok : ordsOk nn os = true) (hrk : rdsOk nn' rs = true) :
    Calls Try.prog 33 #[.slice A4 n4 c4, .slice A3 n3 c3] w fun e w' => ∃ g c h u d, e = .returned (.tuple #[.slice (some ⟨g, 0, none⟩) n4 c, .slice (some ⟨h, 0, none⟩) u d]) ∧ w'.ownsRow w.heap.size 2 1 (.slice (some ⟨g, 0, none⟩) n4 c) n4 (ints (al os rs)) ∧ w'.ownsRow w.heap.size 2 1 (.slice (some ⟨h, 0, none⟩) u d) u (ints (unTo os rs rs.length)) ∧ Gr w w' := by
  obtain ⟨i0, hi0, hz0, hz1, hz2⟩ := info_parts infoInt64
  have hm4 := hO.small
  have hm3 := hL.small
  have hl4 := hO.sl.len GOrd.cells_len (by omega)
  have hl3 := hL.sl.len GRd.cells_len (by omega)
  have h40 : n4 ≤ 40 := by have := (ordsOk_all hok).1; omega
  have h48 : n3 ≤ 48 := by have := (rdsOk_all hrk).1; omega
  have HO := Lib.hid hO
  have HL := Lib.hid hL
  have Hok := Lib.hid hok
  have Hrk := Lib.hid hrk
  have Hl4 := Lib.hid hl4
  have Hl3 := Lib.hid hl3
  clear hO hL hok hrk hl4 hl3
  go_enter Try.func33, Try.ntmps33
  go_wp2_with (at_make; refine wpList_make_full _ rfl _ _ _ rfl w.heap.size 2 i0 _ 1 Try.underlying31 hi0 hz0 hz1 .i64 .i64 _ _ n4 rfl rfl rfl rfl (by rw [hz2]; omega) (by unfold maxLen; omega) (Nat.le_refl _) ?_; intro w1 hown hg)
  have ho1 : w1.ownsRow w.heap.size 2 1 (.slice (some ⟨w.heap.size, 0, none⟩) n4 n4) n4 (ints (alTo os rs 0)) := by
    have e : (alTo os rs 0) = List.replicate n4 0 := by rw [← Hl4.out]; rfl
    rw [e]; exact own_cells_eq hown (made_ints n4)
  have hg1 : Gr w w1 := Gr.of_grown hg
  have hs1 : w.heap.size < w1.heap.size := own_block_lt ho1 rfl
  have ho2 := World.ownsRow_lit w1 (e := 2) (size := 1) #[] 0 (Nat.le_refl _) (by unfold maxLen; omega) rfl
  generalize hw2 : World.alloc w1 _ = w2
  have hg2 : Gr w1 w2 := by rw [← hw2]; exact (Gr.refl _).alloc _
  rw [hw2] at ho2
  have Ho1 := Lib.hid (own_gr ho1 hg2)
  have Ho2 := Lib.hid (own_base ho2 (Nat.le_of_lt hs1))
  have hgw2 := hg1.trans hg2
  clear hown ho1 hg hg1 ho2 hw2 hg2
  go_loopw [6, 7, 8] (fun o u i wr => ∃ k : Nat, k ≤ n3 ∧ i = .int .i64 k ∧ (∃ g c h m d, o = .slice (some ⟨g, 0, none⟩) n4 c ∧ u = .slice (some ⟨h, 0, none⟩) m d ∧ g ≠ h ∧ wr.ownsRow w.heap.size 2 1 (.slice (some ⟨g, 0, none⟩) n4 c) n4 (ints (alTo os rs k)) ∧ wr.ownsRow w.heap.size 2 1 (.slice (some ⟨h, 0, none⟩) m d) m (ints (unTo os rs k))) ∧ Gr w wr) (fun _ _ i _ => n3 - (intOf i).toNat)
  case atStart => exact ⟨0, Nat.zero_le _, rfl, ⟨_, _, _, _, _, rfl, rfl, by omega, Ho1.out, Ho2.out⟩, hgw2⟩
  case round =>
    obtain ⟨k, hk, rfl, ⟨g, c, h, m, d, rfl, rfl, hgh, hown, hun⟩, hgr⟩ := hrel
    clear Ho1 Ho2 hgw2 hs1
    have Hown := Lib.hid hown
    have Hun := Lib.hid hun
    have hml : m ≤ k := by have := own_ilen hun; have := unTo_len os rs k; omega
    clear hown hun
    by_cases hlt : k < n3
    · obtain ⟨y, hy⟩ : ∃ y, rs[k]? = some y := ⟨_, List.getElem?_eq_getElem (by have := Hl3.out; omega)⟩
      obtain ⟨b, o, rfl, hb, r0, r1⟩ := (HL.out.sl.gr hgr).rd hy
      have Hy := Lib.hid hy
      have t1 : (k : Int) < (n3 : Int) := by omega
      have t0 : (0 : Int) ≤ (k : Int) := by omega
      clear hy
      go_wp2_with fail
      refine (l28Weights_any nn os y _ (HO.out.gr hgr) Hok.out).mono ?_
      rintro e w3 ⟨Aw, cw, rfl, how, hgw⟩
      have Hw := Lib.hid how
      clear how
      go_wp2_with fail
      refine (l01Sum_any _ _ (SlAt.of_own Hw.out hm4) (fun z hz => by have := wAt_bnd Hok.out y z hz; omega)).mono ?_
      rintro e _ ⟨rfl, rfl⟩
      obtain ⟨S, hS⟩ : ∃ S, S = (wts os y.node (sgn y.amount)).sum := ⟨_, rfl⟩
      rw [← hS]
      replace r0 := hgw.has r0
      replace r1 := hgw.has r1
      have hg3 := hgr.trans hgw
      have Hown3 := Lib.hid (own_gr Hown.out hgw)
      have Hun3 := Lib.hid (own_gr Hun.out hgw)
      have HS := Lib.hid hS
      clear hS Hown Hun
      by_cases h0 : S = 0
      · subst h0
        have Hu := Lib.hid (unTo_hit Hy.out HS.out.symm)
        have Ha : Hid (alTo os rs (k + 1) = alTo os rs k) := Lib.hid (by rw [alTo_step Hy.out, alStep, if_pos (show (wAt os y).sum = 0 from HS.out.symm)])
        have hbs := hg3.size
        go_wp2_with (at_builtin; (refine wpList_append_lies _ rfl _ _ _ rfl w.heap.size 2 i0 _ 1 8 Try.underlying31 hi0 hz0 hz1 hz2 rfl (by omega) _ m _ rfl (Hun3.out.alloc _) ⟨w3.heap.size, 0, none⟩ 1 1 [.int .i64 (k : Int)] rfl rfl (World.news_of_block (cs := #[.int .i64 (k : Int)]) (t := 2) (fr := (0, 0)) (heap_alloc_new w3 _)) (by simp [Value.oneCell']) (by omega) (by unfold maxLen; omega) (by omega) (by simp; omega) (w3.heap.size + 1) (by simp) ?_; intro h4 cap4 w4 ho4 hg4 hat4 hlt4; have Ho4 := Lib.hid (own_cells_eq ho4 (ints_snoc _ (k : Int)).symm); clear ho4))
        have hgb := (World.ownsRow.lt Hown3.out g rfl).2
        have hgh4 : g ≠ h4 := by
          rcases hat4 with e | e
          · intro e'; exact hgh (e'.trans (Option.some.inj e).symm)
          · omega
        have Hown4 := Lib.hid ((Hown3.out.alloc _).kept hg4 (Or.inr fun e => hgh (Option.some.inj e)))
        have hgw4 := (hg3.alloc _).grown hg4 (fun j hj => own_base_le Hun3.out hj)
        clear hat4 hlt4 hg4
        go_wp2_with fail
        go_roundw
        case rel => exact ⟨k + 1, by omega, by go_num, ⟨_, _, _, _, _, rfl, rfl, hgh4, by rw [Ha.out]; exact Hown4.out, by rw [Hu.out]; exact Ho4.out⟩, hgw4⟩
        case measure => simp [intOf]; omega
      · have hne : ¬ (wAt os y).sum = 0 := by rw [HS.out] at h0; exact h0
        have tb : (S == 0) = false := by simp [h0]
        have hw := wAt_bnd Hok.out y
        have hSp := sum_pos_of (fun z hz => (hw z hz).1) hne
        have hn0 : 0 < n4 := by
          rcases Nat.eq_zero_or_pos n4 with e | e
          · exfalso
            have hn : os = [] := List.length_eq_zero_iff.1 (by rw [Hl4.out]; exact e)
            rw [hn] at hne; exact hne rfl
          · exact e
        have Ha : Hid (alTo os rs (k + 1) = addS (alTo os rs k) (shares (sgn y.amount * y.amount) (wAt os y)) (sgn y.amount)) := Lib.hid (by rw [alTo_step Hy.out, alStep, if_neg hne])
        have Hu := Lib.hid (unTo_miss Hy.out hne)
        have hta := rd_abs Hrk.out Hy.out
        have hsb := shares_bnd hta hw hSp (by rw [wAt_len, Hl4.out]; exact h40)
        have hab := alTo_bnd Hok.out Hrk.out (rs := rs) k
        have hsg := sgn_cases y.amount
        have Hab := Lib.hid hab
        have Hsb := Lib.hid hsb
        have Hwb := Lib.hid hw
        have HSp := Lib.hid hSp
        have Hsg := Lib.hid hsg
        have hyb := (rdOk_all ((rdsOk_all Hrk.out).2 k y Hy.out)).2.1
        clear hab hsb hw hSp hsg hne HS
        have Hw' : Hid (w3.ownsRow w.heap.size 2 1 (.slice Aw n4 cw) n4 (ints (wAt os y))) := Lib.hid (own_base Hw.out hgr.size)
        obtain ⟨t, ht⟩ : ∃ t, t = sgn y.amount * y.amount := ⟨_, rfl⟩
        rw [← ht] at hta Hsb Ha
        by_cases hneg : y.amount < 0
        · have hsv : sgn y.amount = -1 := by rw [sgn, if_pos hneg]
          rw [hsv] at ht Ha
          have Ht := Lib.hid (show -y.amount = t by omega)
          have Hta := Lib.hid hta
          clear hsv ht hta
          go_wp2_with fail
          rw [Ht.out]
          refine (l01Shares_any t (wAt os y) w3 (SlAt.of_own Hw'.out hm4) hn0 h40 Hta.out Hwb.out HSp.out).mono ?_
          rintro e w4 ⟨B, dB, rfl, hsh, hg4⟩
          have Hsh := Lib.hid hsh
          have Hown4 := Lib.hid (own_gr Hown3.out hg4)
          have Hun4 := Lib.hid (own_gr Hun3.out hg4)
          have hgw4 := hg3.trans hg4
          clear hsh hg4
          go_wp2_with fail
          refine (l05Add_any (alTo os rs k) (shares t (wAt os y)) _ _ (SlAt.of_own Hown4.out hm4) (SlAt.of_own Hsh.out hm4) (by simp) (fun i => by have := Hab.out i; omega) (fun i => by have := Hsb.out i; omega)).mono ?_
          rintro e w5 ⟨g5, d5, rfl, ho5, hg5⟩
          have hgb := own_base_le ho5 (k := g5) rfl
          have hub := (World.ownsRow.lt Hun4.out h rfl).2
          have Ho5 := Lib.hid (own_base ho5 hgw4.size)
          have Hun5 := Lib.hid (own_gr Hun4.out hg5)
          have hgw5 := hgw4.trans hg5
          clear ho5 hg5
          go_wp2_with fail
          go_roundw
          case rel => exact ⟨k + 1, by omega, by go_num, ⟨_, _, _, _, _, rfl, rfl, by omega, by rw [Ha.out]; exact Ho5.out, by rw [Hu.out]; exact Hun5.out⟩, hgw5⟩
          case measure => simp [intOf]; omega
        · have hsv : sgn y.amount = 1 := by rw [sgn, if_neg hneg]
          rw [hsv] at ht Ha
          have Ht := Lib.hid (show y.amount = t by omega)
          have Hta := Lib.hid hta
          clear hsv ht hta
          go_wp2_with fail
          rw [Ht.out]
          refine (l01Shares_any t (wAt os y) w3 (SlAt.of_own Hw'.out hm4) hn0 h40 Hta.out Hwb.out HSp.out).mono ?_
          rintro e w4 ⟨B, dB, rfl, hsh, hg4⟩
          have Hsh := Lib.hid hsh
          have Hown4 := Lib.hid (own_gr Hown3.out hg4)
          have Hun4 := Lib.hid (own_gr Hun3.out hg4)
          have hgw4 := hg3.trans hg4
          clear hsh hg4
          go_wp2_with fail
          refine (l05Add_any (alTo os rs k) (shares t (wAt os y)) _ _ (SlAt.of_own Hown4.out hm4) (SlAt.of_own Hsh.out hm4) (by simp) (fun i => by have := Hab.out i; omega) (fun i => by have := Hsb.out i; omega)).mono ?_
          rintro e w5 ⟨g5, d5, rfl, ho5, hg5⟩
          have hgb := own_base_le ho5 (k := g5) rfl
          have hub := (World.ownsRow.lt Hun4.out h rfl).2
          have Ho5 := Lib.hid (own_base ho5 hgw4.size)
          have Hun5 := Lib.hid (own_gr Hun4.out hg5)
          have hgw5 := hgw4.trans hg5
          clear ho5 hg5
          go_wp2_with fail
          go_roundw
          case rel => exact ⟨k + 1, by omega, by go_num, ⟨_, _, _, _, _, rfl, rfl, by omega, by rw [Ha.out]; exact Ho5.out, by rw [Hu.out]; exact Hun5.out⟩, hgw5⟩
          case measure => simp [intOf]; omega
    · obtain rfl : k = n3 := by omega
      go_wp2_with fail
      go_ret2
      exact ⟨_, _, _, _, _, rfl, by rw [al, Hl3.out]; exact Hown.out, by rw [Hl3.out]; exact Hun.out, hgr⟩
end Go.Proofs.Ytihkkemkecifcaa
