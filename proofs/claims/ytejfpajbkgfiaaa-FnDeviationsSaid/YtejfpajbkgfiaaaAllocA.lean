import Derived.Test.YtejfpajbkgfiaaaShareA
import Derived.Test.YtejfpajbkgfiaaaTrs
/-
  Allocation: the reference.
-/
namespace Go.Proofs.Ytejfpajbkgfiaaa
open Go.ChangeShapes Go.WideShapes Go.ChangeAt Go.RowKit

def addAtK (a b : List Int) (s : Int) (k : Nat) : Int := a.getD k 0 + s * b.getD k 0
theorem addS_take {a b : List Int} {s : Int} (h : b.length = a.length) {k : Nat} (hk : k < a.length) : (addS a b s).take (k + 1) = (addS a b s).take k ++ [addAtK a b s k] := by
  have h1 : (addS a b s)[k]? = some (addAtK a b s k) := by
    rw [get_of_lt (by rw [addS_len h]; exact hk), addS_getD s h]; rfl
  rw [List.take_add_one, h1]; rfl
set_option maxHeartbeats 1600000 in
set_option maxRecDepth 100000 in
theorem l05Add_any {A1 A2 : Option Addr} {m c1 c2 : Nat} (a b : List Int) (s : Int) (w : World) (hA : SlAt w 1 A1 m c1 (ints a)) (hB : SlAt w 1 A2 m c2 (ints b)) (hs : s = 1 ∨ s = -1) (ha : ∀ i, -1000000000000 ≤ a.getD i 0 ∧ a.getD i 0 ≤ 1000000000000) (hb : ∀ i, -1000000000000 ≤ b.getD i 0 ∧ b.getD i 0 ≤ 1000000000000) :
    Calls Try.prog 159 #[.slice A1 m c1, .slice A2 m c2, .int .i64 s] w fun e w' => ∃ g d, e = .returned (.slice (some ⟨g, 0, none⟩) m d) ∧ w'.ownsRow w.heap.size 2 1 (.slice (some ⟨g, 0, none⟩) m d) m (ints (addS a b s)) ∧ Gr w w' := by
  obtain ⟨i0, hi0, hz0, hz1, hz2⟩ := info_parts infoInt64
  have hla := hA.sl.ilen
  have hlb := hB.sl.ilen
  have hm := hA.small
  have HA := Lib.hid hA
  have HB := Lib.hid hB
  have Hla := Lib.hid hla
  have Hlb := Lib.hid hlb
  have Ha := Lib.hid ha
  have Hb := Lib.hid hb
  clear hA hB hla hlb ha hb
  go_enter Try.func159, Try.ntmps159
  go_wp2_with fail
  go_loopw [7, 8] (fun o i wr => ∃ k : Nat, k ≤ m ∧ i = .int .i64 k ∧ (∃ g c, o = .slice (some ⟨g, 0, none⟩) k c ∧ wr.ownsRow w.heap.size 2 1 (.slice (some ⟨g, 0, none⟩) k c) k (ints ((addS a b s).take k))) ∧ Gr w wr) (fun _ i _ => m - (intOf i).toNat)
  case atStart => exact ⟨0, Nat.zero_le _, rfl, ⟨_, _, rfl, World.ownsRow_lit w #[] 0 (Nat.le_refl _) (by unfold maxLen; omega) rfl⟩, (Gr.refl _).alloc _⟩
  case round =>
    obtain ⟨k, hk, rfl, ⟨g1, c3, rfl, hownr⟩, hgr⟩ := hrel
    have Hown := Lib.hid hownr
    clear hownr
    by_cases hlt : k < m
    · have hxa := get_of_lt (l := a) (k := k) (by have := Hla.out; omega)
      have hxb := get_of_lt (l := b) (k := k) (by have := Hlb.out; omega)
      have hba := Ha.out k
      have hbb := Hb.out k
      have hst := addS_take (a := a) (b := b) (s := s) (by have := Hla.out; have := Hlb.out; omega) (k := k) (by have := Hla.out; omega)
      rw [addAtK] at hst
      obtain ⟨x, hx⟩ : ∃ x, x = a.getD k 0 := ⟨_, rfl⟩
      obtain ⟨y, hy⟩ : ∃ y, y = b.getD k 0 := ⟨_, rfl⟩
      rw [← hx] at hxa hba hst
      rw [← hy] at hxb hbb hst
      obtain ⟨bA, oA, rfl, hb1, e1⟩ := HA.out.sl.int hxa
      obtain ⟨bB, oB, rfl, hb2, e2⟩ := HB.out.sl.int hxb
      replace e1 := hgr.has e1
      replace e2 := hgr.has e2
      have hbase := hgr.size
      have Hst := Lib.hid hst
      have hp : IntKind.i64.wrap (s * y) = s * y := IntWalk.i64_in _ (by rcases hs with rfl | rfl <;> omega)
      have hsy : -1000000000000 ≤ s * y ∧ s * y ≤ 1000000000000 := by rcases hs with rfl | rfl <;> omega
      obtain ⟨p, hpe⟩ : ∃ p, p = s * y := ⟨_, rfl⟩
      rw [← hpe] at hp hsy Hst
      have hq : IntKind.i64.wrap (x + p) = x + p := IntWalk.i64_in _ (by omega)
      have t1 : (k : Int) < (m : Int) := by omega
      have t0 : (0 : Int) ≤ (k : Int) := by omega
      have hp' : s * y = p := hpe.symm
      clear hxa hxb hx hy hst hpe
      have hfar : ∀ j, (Value.slice (some ⟨g1, 0, none⟩) k c3).ownBlock = some j → j ≠ bA ∧ j ≠ bB := by
        intro j hj
        have e1 := own_base_le Hown.out hj
        omega
      have hnew : ∀ o : Obj, (wr.alloc o).heap[wr.heap.size]? = some o := fun o => heap_alloc_new wr o
      go_wp2_with fail
      go_region_held3 (fun w' => w'.cell? ⟨bA, oA + k, none⟩ = some (.int .i64 x) ∧ w'.cell? ⟨bB, oB + k, none⟩ = some (.int .i64 y))
        (first
          | go_keep
          | (go_split_ands
             refine ⟨?_, ?_⟩
             · (rw [hgrow.cell_far _ (by simp; omega) (fun e => (hfar _ e.symm).1 rfl)]; assumption)
             · (rw [hgrow.cell_far _ (by simp; omega) (fun e => (hfar _ e.symm).2 rfl)]; assumption)))
        ((refine step_append_lies _ (by rfl) _ _ _ (by rfl) w.heap.size 2 i0 _ 1 8 Try.underlying33 hi0 hz0 hz1 hz2 rfl (by omega) _ k _ (by rfl) ((Hown.out.alloc _).drew) ⟨wr.heap.size, 0, none⟩ 1 1 [.int .i64 (x + p)] (by rfl) (by rfl) (World.news_of_block (cs := #[.int .i64 (x + p)]) (t := 2) (fr := (0, 0)) (hnew _)) (by simp [Value.oneCell']) (by omega) (by unfold maxLen; omega) (by omega) (by simp; omega) (wr.heap.size + 1) (by simp) ?_; intro gg cap w2 hown1 hgrow hat hlt2))
      clear hp hq hfar
      have Ho2 := Lib.hid (own_cells_eq hown1 (ints_snoc _ (x + p)).symm)
      clear hown1
      go_wp2_with fail
      go_roundw
      case rel =>
        refine ⟨k + 1, by omega, by go_num, ⟨_, _, rfl, ?_⟩, ?_⟩
        · rw [Hst.out]; exact Ho2.out
        · exact ((hgr.alloc _).drew).grown hgrow (fun j hj => own_base_le Hown.out hj)
      case measure => simp [intOf]; omega
    · obtain rfl : k = m := by omega
      go_wp2_with fail
      go_ret
      refine ⟨_, _, rfl, ?_, hgr⟩
      have h := Hown.out
      rw [List.take_of_length_le (by rw [addS_len (by have := Hla.out; have := Hlb.out; omega), Hla.out]; exact Nat.le_refl _)] at h
      exact h
theorem shares_bnd {t : Int} {ws : List Int} (ht : 0 ≤ t ∧ t ≤ 30000) (hw : ∀ z ∈ ws, 0 ≤ z ∧ z ≤ 30000) (hS : 0 < ws.sum) (hl : ws.length ≤ 40) (i : Nat) : 0 ≤ (shares t ws).getD i 0 ∧ (shares t ws).getD i 0 ≤ 900000040 := by
  have h1 := shIter_bnd (B := 900000000) (s := (shOut t ws.sum ws, shRest t ws.sum ws)) (shOut_bnd ht hS hw) (shLeft t ws.sum ws).toNat i
  have h2 := left_count (t := t) hS
  have h3 := List.countP_le_length (p := fun z : Int => decide (0 < z)) (l := shRest t ws.sum ws)
  have h4 : (shRest t ws.sum ws).length = ws.length := by simp [shRest]
  rw [shares]
  omega
theorem rd_abs {nn : Int} {rs : List GRd} (h : rdsOk nn rs = true) {k : Nat} {y : GRd} (hy : rs[k]? = some y) : 0 ≤ sgn y.amount * y.amount ∧ sgn y.amount * y.amount ≤ 30000 := by
  have h1 := (rdOk_all ((rdsOk_all h).2 k y hy)).2.1
  unfold sgn
  split <;> omega
theorem alTo_bnd {nn nn' : Int} {os : List GOrd} {rs : List GRd} (h : ordsOk nn os = true) (hr : rdsOk nn' rs = true) (k : Nat) (i : Nat) : -(1000000000 * (k : Int)) ≤ (alTo os rs k).getD i 0 ∧ (alTo os rs k).getD i 0 ≤ 1000000000 * (k : Int) := by
  induction k with
  | zero =>
    have : (alTo os rs 0).getD i 0 = 0 := by
      show (List.replicate os.length (0 : Int)).getD i 0 = 0
      rw [List.getD_eq_getElem?_getD, List.getElem?_replicate]; split <;> rfl
    omega
  | succ k ih =>
    cases hy : rs[k]? with
    | none =>
      have hl : rs.length ≤ k := List.getElem?_eq_none_iff.1 hy
      rw [alTo, List.take_of_length_le (by omega)]
      rw [alTo, List.take_of_length_le hl] at ih
      omega
    | some y =>
      rw [alTo_step hy, alStep]
      split
      · omega
      · rename_i h0
        have hw := wAt_bnd h y
        have hS := sum_pos_of (fun z hz => (hw z hz).1) h0
        have hb := shares_bnd (rd_abs hr hy) hw hS (by rw [wAt_len]; exact (ordsOk_all h).1) i
        rw [addS_getD _ (by rw [shares_len h h0, alTo_len h])]
        rcases sgn_cases y.amount with e | e <;> rw [e] at hb ⊢ <;> omega
theorem unTo_hit {os : List GOrd} {rs : List GRd} {k : Nat} {y : GRd} (hy : rs[k]? = some y) (h : (wAt os y).sum = 0) : unTo os rs (k + 1) = unTo os rs k ++ [(k : Int)] := by
  have e : rs.getD k ⟨0, 0⟩ = y := by rw [List.getD_eq_getElem?_getD, hy]; rfl
  rw [unTo, e, if_pos h]
theorem unTo_miss {os : List GOrd} {rs : List GRd} {k : Nat} {y : GRd} (hy : rs[k]? = some y) (h : ¬ (wAt os y).sum = 0) : unTo os rs (k + 1) = unTo os rs k := by
  have e : rs.getD k ⟨0, 0⟩ = y := by rw [List.getD_eq_getElem?_getD, hy]; rfl
  rw [unTo, e, if_neg h]
theorem unTo_len (os : List GOrd) (rs : List GRd) (k : Nat) : (unTo os rs k).length ≤ k := by
  induction k with
  | zero => exact Nat.le_refl _
  | succ k ih =>
    rw [unTo]
    split
    · simp; omega
    · omega
set_option maxHeartbeats 3200000 in
set_option maxRecDepth 100000 in
theorem l28Allocate_any {A4 A3 : Option Addr} {n4 c4 n3 c3 : Nat} (nn nn' : Int) (os : List GOrd) (rs : List GRd) (w : World) (hO : SlAt w 4 A4 n4 c4 (os.flatMap GOrd.cells)) (hL : SlAt w 2 A3 n3 c3 (rs.flatMap GRd.cells)) (hok : ordsOk nn os = true) (hrk : rdsOk nn' rs = true) :
    Calls Try.prog 130 #[.slice A4 n4 c4, .slice A3 n3 c3] w fun e w' => ∃ g c h u d, e = .returned (.tuple #[.slice (some ⟨g, 0, none⟩) n4 c, .slice (some ⟨h, 0, none⟩) u d]) ∧ w'.ownsRow w.heap.size 2 1 (.slice (some ⟨g, 0, none⟩) n4 c) n4 (ints (al os rs)) ∧ w'.ownsRow w.heap.size 2 1 (.slice (some ⟨h, 0, none⟩) u d) u (ints (unTo os rs rs.length)) ∧ Gr w w' := by
  obtain ⟨i0, hi0, hz0, hz1, hz2⟩ := info_parts infoInt64
  have hm4 := hO.small
  have hm3 := hL.small
  have hl4 := hO.sl.len GOrd.cells_len (by omega)
  have hl3 := hL.sl.len GRd.cells_len (by omega)
  have h40 : n4 ≤ 40 := by have := (ordsOk_all hok).1; omega
  have h48 : n3 ≤ 48 := by have := (rdsOk_all hrk).1; omega
  have HO := Lib.hid hO
  have HL := Lib.hid hL
  have Hok := Lib.hid hok
  have Hrk := Lib.hid hrk
  have Hl4 := Lib.hid hl4
  have Hl3 := Lib.hid hl3
  clear hO hL hok hrk hl4 hl3
  go_enter Try.func130, Try.ntmps130
  go_wp2_with (at_make; refine wpList_make_full _ rfl _ _ _ rfl w.heap.size 2 i0 _ 1 Try.underlying33 hi0 hz0 hz1 .i64 .i64 _ _ n4 rfl rfl rfl rfl (by rw [hz2]; omega) (by unfold maxLen; omega) (Nat.le_refl _) ?_; intro w1 hown hg)
  have ho1 : w1.ownsRow w.heap.size 2 1 (.slice (some ⟨w.heap.size, 0, none⟩) n4 n4) n4 (ints (alTo os rs 0)) := by
    have e : (alTo os rs 0) = List.replicate n4 0 := by rw [← Hl4.out]; rfl
    rw [e]; exact own_cells_eq hown (made_ints n4)
  have hg1 : Gr w w1 := Gr.of_grown hg
  have hs1 : w.heap.size < w1.heap.size := own_block_lt ho1 rfl
  have ho2 := World.ownsRow_lit w1 (e := 2) (size := 1) #[] 0 (Nat.le_refl _) (by unfold maxLen; omega) rfl
  generalize hw2 : World.alloc w1 _ = w2
  have hg2 : Gr w1 w2 := by rw [← hw2]; exact (Gr.refl _).alloc _
  rw [hw2] at ho2
  have Ho1 := Lib.hid (own_gr ho1 hg2)
  have Ho2 := Lib.hid (own_base ho2 (Nat.le_of_lt hs1))
  have hgw2 := hg1.trans hg2
  clear hown ho1 hg hg1 ho2 hw2 hg2
  go_loopw [6, 7, 8] (fun o u i wr => ∃ k : Nat, k ≤ n3 ∧ i = .int .i64 k ∧ (∃ g c h m d, o = .slice (some ⟨g, 0, none⟩) n4 c ∧ u = .slice (some ⟨h, 0, none⟩) m d ∧ g ≠ h ∧ wr.ownsRow w.heap.size 2 1 (.slice (some ⟨g, 0, none⟩) n4 c) n4 (ints (alTo os rs k)) ∧ wr.ownsRow w.heap.size 2 1 (.slice (some ⟨h, 0, none⟩) m d) m (ints (unTo os rs k))) ∧ Gr w wr) (fun _ _ i _ => n3 - (intOf i).toNat)
  case atStart => exact ⟨0, Nat.zero_le _, rfl, ⟨_, _, _, _, _, rfl, rfl, by omega, Ho1.out, Ho2.out⟩, hgw2⟩
  case round =>
    obtain ⟨k, hk, rfl, ⟨g, c, h, m, d, rfl, rfl, hgh, hown, hun⟩, hgr⟩ := hrel
    clear Ho1 Ho2 hgw2 hs1
    have Hown := Lib.hid hown
    have Hun := Lib.hid hun
    have hml : m ≤ k := by have := own_ilen hun; have := unTo_len os rs k; omega
    clear hown hun
    by_cases hlt : k < n3
    · obtain ⟨y, hy⟩ : ∃ y, rs[k]? = some y := ⟨_, List.getElem?_eq_getElem (by have := Hl3.out; omega)⟩
      obtain ⟨b, o, rfl, hb, r0, r1⟩ := (HL.out.sl.gr hgr).rd hy
      have Hy := Lib.hid hy
      have t1 : (k : Int) < (n3 : Int) := by omega
      have t0 : (0 : Int) ≤ (k : Int) := by omega
      clear hy
      go_wp2_with fail
      refine (l28Weights_any nn os y _ (HO.out.gr hgr) Hok.out).mono ?_
      rintro e w3 ⟨Aw, cw, rfl, how, hgw⟩
      have Hw := Lib.hid how
      clear how
      go_wp2_with fail
      refine (l01Sum_any _ _ (SlAt.of_own Hw.out hm4) (fun z hz => by have := wAt_bnd Hok.out y z hz; omega)).mono ?_
      rintro e _ ⟨rfl, rfl⟩
      obtain ⟨S, hS⟩ : ∃ S, S = (wts os y.node (sgn y.amount)).sum := ⟨_, rfl⟩
      rw [← hS]
      replace r0 := hgw.has r0
      replace r1 := hgw.has r1
      have hg3 := hgr.trans hgw
      have Hown3 := Lib.hid (own_gr Hown.out hgw)
      have Hun3 := Lib.hid (own_gr Hun.out hgw)
      have HS := Lib.hid hS
      clear hS Hown Hun
      by_cases h0 : S = 0
      · subst h0
        have Hu := Lib.hid (unTo_hit Hy.out HS.out.symm)
        have Ha : Hid (alTo os rs (k + 1) = alTo os rs k) := Lib.hid (by rw [alTo_step Hy.out, alStep, if_pos (show (wAt os y).sum = 0 from HS.out.symm)])
        have hbs := hg3.size
        go_wp2_with (at_builtin; (refine wpList_append_lies _ rfl _ _ _ rfl w.heap.size 2 i0 _ 1 8 Try.underlying33 hi0 hz0 hz1 hz2 rfl (by omega) _ m _ rfl (Hun3.out.alloc _) ⟨w3.heap.size, 0, none⟩ 1 1 [.int .i64 (k : Int)] rfl rfl (World.news_of_block (cs := #[.int .i64 (k : Int)]) (t := 2) (fr := (0, 0)) (heap_alloc_new w3 _)) (by simp [Value.oneCell']) (by omega) (by unfold maxLen; omega) (by omega) (by simp; omega) (w3.heap.size + 1) (by simp) ?_; intro h4 cap4 w4 ho4 hg4 hat4 hlt4; have Ho4 := Lib.hid (own_cells_eq ho4 (ints_snoc _ (k : Int)).symm); clear ho4))
        have hgb := (World.ownsRow.lt Hown3.out g rfl).2
        have hgh4 : g ≠ h4 := by
          rcases hat4 with e | e
          · intro e'; exact hgh (e'.trans (Option.some.inj e).symm)
          · omega
        have Hown4 := Lib.hid ((Hown3.out.alloc _).kept hg4 (Or.inr fun e => hgh (Option.some.inj e)))
        have hgw4 := (hg3.alloc _).grown hg4 (fun j hj => own_base_le Hun3.out hj)
        clear hat4 hlt4 hg4
        go_wp2_with fail
        go_roundw
        case rel => exact ⟨k + 1, by omega, by go_num, ⟨_, _, _, _, _, rfl, rfl, hgh4, by rw [Ha.out]; exact Hown4.out, by rw [Hu.out]; exact Ho4.out⟩, hgw4⟩
        case measure => simp [intOf]; omega
      · have hne : ¬ (wAt os y).sum = 0 := by rw [HS.out] at h0; exact h0
        have tb : (S == 0) = false := by simp [h0]
        have hw := wAt_bnd Hok.out y
        have hSp := sum_pos_of (fun z hz => (hw z hz).1) hne
        have hn0 : 0 < n4 := by
          rcases Nat.eq_zero_or_pos n4 with e | e
          · exfalso
            have hn : os = [] := List.length_eq_zero_iff.1 (by rw [Hl4.out]; exact e)
            rw [hn] at hne; exact hne rfl
          · exact e
        have Ha : Hid (alTo os rs (k + 1) = addS (alTo os rs k) (shares (sgn y.amount * y.amount) (wAt os y)) (sgn y.amount)) := Lib.hid (by rw [alTo_step Hy.out, alStep, if_neg hne])
        have Hu := Lib.hid (unTo_miss Hy.out hne)
        have hta := rd_abs Hrk.out Hy.out
        have hsb := shares_bnd hta hw hSp (by rw [wAt_len, Hl4.out]; exact h40)
        have hab := alTo_bnd Hok.out Hrk.out (rs := rs) k
        have hsg := sgn_cases y.amount
        have Hab := Lib.hid hab
        have Hsb := Lib.hid hsb
        have Hwb := Lib.hid hw
        have HSp := Lib.hid hSp
        have Hsg := Lib.hid hsg
        have hyb := (rdOk_all ((rdsOk_all Hrk.out).2 k y Hy.out)).2.1
        clear hab hsb hw hSp hsg hne HS
        have Hw' : Hid (w3.ownsRow w.heap.size 2 1 (.slice Aw n4 cw) n4 (ints (wAt os y))) := Lib.hid (own_base Hw.out hgr.size)
        obtain ⟨t, ht⟩ : ∃ t, t = sgn y.amount * y.amount := ⟨_, rfl⟩
        rw [← ht] at hta Hsb Ha
        by_cases hneg : y.amount < 0
        · have hsv : sgn y.amount = -1 := by rw [sgn, if_pos hneg]
          rw [hsv] at ht Ha
          have Ht := Lib.hid (show -y.amount = t by omega)
          have Hta := Lib.hid hta
          clear hsv ht hta
          go_wp2_with fail
          rw [Ht.out]
          refine (l01Shares_any t (wAt os y) w3 (SlAt.of_own Hw'.out hm4) hn0 h40 Hta.out Hwb.out HSp.out).mono ?_
          rintro e w4 ⟨B, dB, rfl, hsh, hg4⟩
          have Hsh := Lib.hid hsh
          have Hown4 := Lib.hid (own_gr Hown3.out hg4)
          have Hun4 := Lib.hid (own_gr Hun3.out hg4)
          have hgw4 := hg3.trans hg4
          clear hsh hg4
          go_wp2_with fail
          refine (l05Add_any (alTo os rs k) (shares t (wAt os y)) _ _ (SlAt.of_own Hown4.out hm4) (SlAt.of_own Hsh.out hm4) (by simp) (fun i => by have := Hab.out i; omega) (fun i => by have := Hsb.out i; omega)).mono ?_
          rintro e w5 ⟨g5, d5, rfl, ho5, hg5⟩
          have hgb := own_base_le ho5 (k := g5) rfl
          have hub := (World.ownsRow.lt Hun4.out h rfl).2
          have Ho5 := Lib.hid (own_base ho5 hgw4.size)
          have Hun5 := Lib.hid (own_gr Hun4.out hg5)
          have hgw5 := hgw4.trans hg5
          clear ho5 hg5
          go_wp2_with fail
          go_roundw
          case rel => exact ⟨k + 1, by omega, by go_num, ⟨_, _, _, _, _, rfl, rfl, by omega, by rw [Ha.out]; exact Ho5.out, by rw [Hu.out]; exact Hun5.out⟩, hgw5⟩
          case measure => simp [intOf]; omega
        · have hsv : sgn y.amount = 1 := by rw [sgn, if_neg hneg]
          rw [hsv] at ht Ha
          have Ht := Lib.hid (show y.amount = t by omega)
          have Hta := Lib.hid hta
          clear hsv ht hta
          go_wp2_with fail
          rw [Ht.out]
          refine (l01Shares_any t (wAt os y) w3 (SlAt.of_own Hw'.out hm4) hn0 h40 Hta.out Hwb.out HSp.out).mono ?_
          rintro e w4 ⟨B, dB, rfl, hsh, hg4⟩
          have Hsh := Lib.hid hsh
          have Hown4 := Lib.hid (own_gr Hown3.out hg4)
          have Hun4 := Lib.hid (own_gr Hun3.out hg4)
          have hgw4 := hg3.trans hg4
          clear hsh hg4
          go_wp2_with fail
          refine (l05Add_any (alTo os rs k) (shares t (wAt os y)) _ _ (SlAt.of_own Hown4.out hm4) (SlAt.of_own Hsh.out hm4) (by simp) (fun i => by have := Hab.out i; omega) (fun i => by have := Hsb.out i; omega)).mono ?_
          rintro e w5 ⟨g5, d5, rfl, ho5, hg5⟩
          have hgb := own_base_le ho5 (k := g5) rfl
          have hub := (World.ownsRow.lt Hun4.out h rfl).2
          have Ho5 := Lib.hid (own_base ho5 hgw4.size)
          have Hun5 := Lib.hid (own_gr Hun4.out hg5)
          have hgw5 := hgw4.trans hg5
          clear ho5 hg5
          go_wp2_with fail
          go_roundw
          case rel => exact ⟨k + 1, by omega, by go_num, ⟨_, _, _, _, _, rfl, rfl, by omega, by rw [Ha.out]; exact Ho5.out, by rw [Hu.out]; exact Hun5.out⟩, hgw5⟩
          case measure => simp [intOf]; omega
    · obtain rfl : k = n3 := by omega
      go_wp2_with fail
      go_ret2
      exact ⟨_, _, _, _, _, rfl, by rw [al, Hl3.out]; exact Hown.out, by rw [Hl3.out]; exact Hun.out, hgr⟩
end Go.Proofs.Ytejfpajbkgfiaaa
/-
  Allocation: the program.
-/
namespace Go.Proofs.Ytejfpajbkgfiaaa
open Go.ChangeShapes Go.WideShapes Go.ChangeAt Go.RowKit

theorem infoInt' : (Try.prog.info? 3).map (fun i => (i.zero, i.size, i.bytes)) = some (some (.int .i64 0), 1, 8) := by kernel_rfl
def natI (l : List Nat) : List Int := l.map fun (i : Nat) => (i : Int)
def mtB (x : GOrd) (y : GRd) : Bool := decide (0 < wt y.node (sgn y.amount) x)
theorem mt_node {x : GOrd} {y : GRd} (h : (x.node == y.node) = false) : mtB x y = false := by
  have : x.node ≠ y.node := by simpa using h
  simp [mtB, wt, this]
theorem mt_val {x : GOrd} {y : GRd} (h : (x.node == y.node) = true) (hy : y.amount ≠ 0) : mtB x y = ((decide (0 < x.amount) && decide (0 < y.amount)) || (decide (x.amount < 0) && decide (y.amount < 0))) := by
  have : x.node = y.node := by simpa using h
  rw [mtB, wt, if_pos this]
  unfold sgn
  by_cases h1 : y.amount < 0
  · rw [if_pos h1]
    have h2 : decide (0 < y.amount) = false := by simp; omega
    rw [h2]
    simp [h1]; omega
  · rw [if_neg h1]
    have h2 : decide (0 < y.amount) = true := by simp; omega
    rw [h2]
    simp [h1]; omega
theorem matches_any (x : GOrd) (y : GRd) (w : World) (hy : y.amount ≠ 0) :
    Calls Try.prog 138 #[.agg #[.int .i64 x.shipper, .int .i64 x.node, .int .i64 x.amount, .int .i64 x.cls], .agg #[.int .i64 y.node, .int .i64 y.amount]] w fun e w' => e = .returned (.bool (mtB x y)) ∧ Gr w w' := by
  have hg : Gr w ((w.alloc (.cells #[.int .i64 x.shipper, .int .i64 x.node, .int .i64 x.amount, .int .i64 x.cls] 65)).alloc (.cells #[.int .i64 y.node, .int .i64 y.amount] 113)) := ((Gr.refl _).alloc _).alloc _
  cases hc : (x.node == y.node) with
  | false =>
    have e := mt_node hc
    go_enter Try.func138, Try.ntmps138
    go_wp2_with fail
    go_ret
    exact ⟨ret_bool e.symm, hg⟩
  | true =>
    have e := mt_val hc hy
    have E := Lib.hid e
    clear e
    cases h1 : decide (0 < x.amount) <;> cases h2 : decide (0 < y.amount) <;> cases h3 : decide (x.amount < 0) <;> cases h4 : decide (y.amount < 0)
    all_goals
      have H := Lib.hid (show mtB x y = _ by rw [E.out, h1, h2, h3, h4])
      go_enter Try.func138, Try.ntmps138
      go_wp2_with fail
      go_ret
      exact ⟨ret_bool H.out.symm, hg⟩
/-- Two slice values do not share a block. -/
def Dj (p q : Value) : Prop := ∀ j, p.ownBlock = some j → q.ownBlock = some j → False
theorem Dj.symm {p q : Value} (h : Dj p q) : Dj q p := fun j a b => h j b a
theorem Dj.keep {p q : Value} (h : Dj p q) : q.ownBlock = none ∨ q.ownBlock ≠ p.ownBlock := by
  cases e : q.ownBlock with
  | none => exact Or.inl rfl
  | some j => exact Or.inr fun e' => h j e'.symm e
theorem Dj.next {p q : Value} {g H n c : Nat} (h : Dj p q) (hat : p.ownBlock = some g ∨ g = H) (hq : ∀ j, q.ownBlock = some j → j < H) : Dj (.slice (some ⟨g, 0, none⟩) n c) q := by
  intro j hj hk
  have : g = j := Option.some.inj hj
  subst this
  rcases hat with e | e
  · exact h _ e hk
  · have := hq _ hk; omega
theorem dj_nil (q : Value) : Dj (.slice none 0 0) q := fun j h => by cases h
theorem natI_snoc (l : List Nat) (x : Nat) : natI (l ++ [x]) = natI l ++ [(x : Int)] := by simp [natI]
theorem cmpTo_hit {ws : List Int} {k : Nat} (h : 0 < ws.getD k 0) : (posTo ws (k + 1)).map (fun i => ws.getD i 0) = (posTo ws k).map (fun i => ws.getD i 0) ++ [ws.getD k 0] := by
  rw [posTo_hit h]; simp
theorem cmp_bnd {ws : List Int} (hw : ∀ z ∈ ws, 0 ≤ z ∧ z ≤ 30000) : ∀ z ∈ cmp ws ws, 0 ≤ z ∧ z ≤ 30000 := by
  intro z hz
  rw [cmp, List.mem_map] at hz
  obtain ⟨i, hi, rfl⟩ := hz
  have := (mem_pos.1 hi).1
  exact hw _ (by simp [this])
theorem cmp_sum_self {ws : List Int} (hw : ∀ z ∈ ws, 0 ≤ z ∧ z ≤ 30000) : (cmp ws ws).sum = ws.sum := by
  refine cmp_sum rfl fun i hi h => ?_
  have := hw (ws.getD i 0) (by simp [hi])
  omega
theorem wt_abs {x : GOrd} {y : GRd} (h : mtB x y = true) : wt y.node (sgn y.amount) x = sgn x.amount * x.amount := by
  rw [mtB, decide_eq_true_eq] at h
  obtain ⟨h1, h2⟩ := wt_pos h
  rw [wt, if_pos h1]
  have : sgn x.amount = sgn y.amount := by
    unfold sgn at h2 ⊢
    split at h2 <;> split <;> first | rfl | omega
  rw [this]; omega
end Go.Proofs.Ytejfpajbkgfiaaa
/-
  Allocation: what each order gets, in the program.
-/
namespace Go.Proofs.Ytejfpajbkgfiaaa
open Go.ChangeShapes Go.WideShapes Go.ChangeAt Go.RowKit

theorem own_blk_of {w : World} {base : Nat} {e : TypeId} {size n c b o : Nat} {A : Option Addr} {xs : List Value} (h : w.ownsRow base e size (.slice A n c) n xs) (hA : A = some ⟨b, o, none⟩) : (Value.slice A n c).ownBlock = some b := by
  rcases h.2 with ⟨hv, _⟩ | ⟨g, cap, cur, hv, _⟩
  · injection hv with h1; rw [h1] at hA; cases hA
  · injection hv with h1
    rw [h1] at hA ⊢
    injection hA with hA; injection hA with hA
    subst hA; rfl
set_option maxHeartbeats 6400000 in
set_option maxRecDepth 100000 in
theorem allocated_any {A4 A3 : Option Addr} {n4 c4 n3 c3 : Nat} (nn nn' : Int) (os : List GOrd) (rs : List GRd) (w : World) (hO : SlAt w 4 A4 n4 c4 (os.flatMap GOrd.cells)) (hL : SlAt w 2 A3 n3 c3 (rs.flatMap GRd.cells)) (hok : ordsOk nn os = true) (hrk : rdsOk nn' rs = true) :
    Calls Try.prog 128 #[.slice A4 n4 c4, .slice A3 n3 c3] w fun e w' => ∃ g, e = .returned (.slice (some ⟨g, 0, none⟩) n4 n4) ∧ w'.ownsRow w.heap.size 2 1 (.slice (some ⟨g, 0, none⟩) n4 n4) n4 (ints (al os rs)) ∧ Gr w w' := by
  obtain ⟨i0, hi0, hz0, hz1, hz2⟩ := info_parts infoInt64
  obtain ⟨i1, hi1, hv0, hv1, hv2⟩ := info_parts infoInt'
  have hm4 := hO.small
  have hm3 := hL.small
  have hl4 := hO.sl.len GOrd.cells_len (by omega)
  have hl3 := hL.sl.len GRd.cells_len (by omega)
  have h40 : n4 ≤ 40 := by have := (ordsOk_all hok).1; omega
  have h48 : n3 ≤ 48 := by have := (rdsOk_all hrk).1; omega
  have HO := Lib.hid hO
  have HL := Lib.hid hL
  have Hok := Lib.hid hok
  have Hrk := Lib.hid hrk
  have Hl4 := Lib.hid hl4
  have Hl3 := Lib.hid hl3
  clear hO hL hok hrk hl4 hl3
  go_enter Try.func128, Try.ntmps128
  go_wp2_with (at_make; refine wpList_make_full _ rfl _ _ _ rfl w.heap.size 2 i0 _ 1 Try.underlying33 hi0 hz0 hz1 .i64 .i64 _ _ n4 rfl rfl rfl rfl (by rw [hz2]; omega) (by unfold maxLen; omega) (Nat.le_refl _) ?_; intro w1 hown hg)
  have ho1 : w1.ownsRow w.heap.size 2 1 (.slice (some ⟨w.heap.size, 0, none⟩) n4 n4) n4 (ints (alTo os rs 0)) := by
    have e : (alTo os rs 0) = List.replicate n4 0 := by rw [← Hl4.out]; rfl
    rw [e]; exact own_cells_eq hown (made_ints n4)
  have hg1 : Gr w w1 := Gr.of_grown hg
  have Ho1 := Lib.hid ho1
  obtain ⟨g, hgs⟩ : ∃ g, g = w.heap.size := ⟨_, rfl⟩
  rw [← hgs] at Ho1 ⊢
  have hgw : w.heap.size ≤ g := by omega
  have hgl : g < w1.heap.size := own_block_lt Ho1.out rfl
  clear hown ho1 hg hgs
  go_loopw [20] (fun i wr => ∃ k : Nat, k ≤ n3 ∧ i = .int .i64 k ∧ wr.ownsRow g 2 1 (.slice (some ⟨g, 0, none⟩) n4 n4) n4 (ints (alTo os rs k)) ∧ Gr w wr) (fun i _ => n3 - (intOf i).toNat)
  case atStart => exact ⟨0, Nat.zero_le _, rfl, Ho1.out, hg1⟩
  case round =>
    obtain ⟨k, hk, rfl, hown, hgr⟩ := hrel
    clear Ho1 hg1 hgl
    have Hown := Lib.hid hown
    clear hown
    by_cases hlt : k < n3
    · obtain ⟨y, hy⟩ : ∃ y, rs[k]? = some y := ⟨_, List.getElem?_eq_getElem (by have := Hl3.out; omega)⟩
      obtain ⟨b, o, rfl, hb, r0, r1⟩ := (HL.out.sl.gr hgr).rd hy
      have Hy := Lib.hid hy
      have hy0 := (rdOk_all ((rdsOk_all Hrk.out).2 k y hy)).2.2
      have t1 : (k : Int) < (n3 : Int) := by omega
      have t0 : (0 : Int) ≤ (k : Int) := by omega
      clear hy
      go_wp2_with fail
      generalize hw2 : World.alloc wr _ = w2
      have hg2 : Gr wr w2 := by rw [← hw2]; exact (Gr.refl _).alloc _
      have y0 : w2.cell? ⟨wr.heap.size, 0, none⟩ = some (.int .i64 y.node) := by rw [← hw2]; simp [go_sem]
      have y1 : w2.cell? ⟨wr.heap.size, 1, none⟩ = some (.int .i64 y.amount) := by rw [← hw2]; simp [go_sem]
      have hgw2 := hgr.trans hg2
      have Hown2 := Lib.hid (own_gr Hown.out hg2)
      have hgl : g < w2.heap.size := own_block_lt Hown2.out rfl
      obtain ⟨Y, hY⟩ : ∃ Y, Y = wr.heap.size := ⟨_, rfl⟩
      rw [← hY] at y0 y1 ⊢
      have hYl : Y < w2.heap.size := lt_of_cell y0
      have hgY : g < Y := by rw [hY]; exact own_block_lt Hown.out rfl
      clear hw2 hg2 r0 r1 Hown hY
      go_wp2_with fail
      go_loopw [8, 9, 26] (fun p q i wz => ∃ j : Nat, j ≤ n4 ∧ i = .int .i64 j ∧ (∃ u, u = (posTo (wAt os y) j).length ∧ ∃ A c B d, p = .slice A u c ∧ q = .slice B u d ∧ Dj p q ∧ wz.ownsRow w2.heap.size 3 1 p u (ints (natI (posTo (wAt os y) j))) ∧ wz.ownsRow w2.heap.size 2 1 q u (ints ((posTo (wAt os y) j).map fun i => (wAt os y).getD i 0))) ∧ Gr w2 wz) (fun _ _ i _ => n4 - (intOf i).toNat)
      case atStart => exact ⟨0, Nat.zero_le _, rfl, ⟨_, rfl, _, _, _, _, rfl, rfl, dj_nil _, World.ownsRow_nil _ _ _ _, World.ownsRow_nil _ _ _ _⟩, Gr.refl _⟩
      case round =>
        obtain ⟨j, hj, rfl, ⟨u, hu, A, c, B, d, rfl, rfl, hdj, hp, hq⟩, hgz⟩ := hrel
        have Hp := Lib.hid hp
        have Hq := Lib.hid hq
        have Hdj := Lib.hid hdj
        have hul : u ≤ j := by rw [hu]; exact posTo_len _ _
        have Hu := Lib.hid hu
        clear hp hq hdj hu
        replace y0 := hgz.has y0
        replace y1 := hgz.has y1
        by_cases hjl : j < n4
        · obtain ⟨x, hx⟩ : ∃ x, os[j]? = some x := ⟨_, List.getElem?_eq_getElem (by have := Hl4.out; omega)⟩
          obtain ⟨b4, o4, rfl, hb4, e0, e1, e2, e3⟩ := (HO.out.sl.gr (hgw2.trans hgz)).ord hx
          have hxb := (ordOk_all ((ordsOk_all Hok.out).2 j x hx)).2.2.1
          have hget := wAt_get (y := y) hx
          have Hget := Lib.hid hget
          have t3 : (j : Int) < (n4 : Int) := by omega
          have t2 : (0 : Int) ≤ (j : Int) := by omega
          have hg3 : Gr wr (wr.alloc (.cells #[.int .i64 x.shipper, .int .i64 x.node, .int .i64 x.amount, .int .i64 x.cls] 65)) := (Gr.refl _).alloc _
          have z0 := hg3.has y0
          have z1 := hg3.has y1
          have z2 : (wr.alloc (.cells #[.int .i64 x.shipper, .int .i64 x.node, .int .i64 x.amount, .int .i64 x.cls] 65)).cell? ⟨wr.heap.size, 2, none⟩ = some (.int .i64 x.amount) := by simp [go_sem]
          have Y0 := Lib.hid y0
          have Y1 := Lib.hid y1
          clear hx hget y0 y1
          go_wp2_with fail
          refine (matches_any x y _ hy0).mono ?_
          rintro e w3 ⟨rfl, hg4⟩
          replace z2 := hg4.has z2
          have hg5 := hg3.trans hg4
          clear z0 z1 hg3 hg4 e0 e1 e2 e3
          have hpl := fun (jj : Nat) (h : (Value.slice A u c).ownBlock = some jj) => own_block_lt Hp.out h
          have hql := fun (jj : Nat) (h : (Value.slice B u d).ownBlock = some jj) => own_block_lt Hq.out h
          have hsw := hg5.size
          have hp3 := own_gr Hp.out hg5
          have hq3 := own_gr Hq.out hg5
          have hs3 := (hgz.trans hg5).size
          have Hp3 := Lib.hid hp3
          have Hq3 := Lib.hid hq3
          have hgz3 := hgz.trans hg5
          clear hp3 hq3 Hp Hq
          cases hmt : mtB x y with
          | false =>
            have hpm : posTo (wAt os y) (j + 1) = posTo (wAt os y) j := posTo_miss (by rw [Hget.out]; simpa [mtB] using hmt)
            have Hpm := Lib.hid hpm
            clear hpm hmt
            go_wp2_with fail
            go_roundw
            case rel => exact ⟨j + 1, by omega, by go_num, ⟨_, by rw [Hpm.out]; exact Hu.out, _, _, _, _, rfl, rfl, Hdj.out, by rw [Hpm.out]; exact Hp3.out, by rw [Hpm.out]; exact Hq3.out⟩, hgz3⟩
            case measure => simp [intOf]; omega
          | true =>
            have hgt : 0 < (wAt os y).getD j 0 := by rw [Hget.out]; simpa [mtB] using hmt
            have Hpm := Lib.hid (posTo_hit hgt)
            have Hcm := Lib.hid (cmpTo_hit hgt)
            have hval : (wAt os y).getD j 0 = sgn x.amount * x.amount := by rw [Hget.out]; exact wt_abs hmt
            obtain ⟨v, hv⟩ : ∃ v, v = sgn x.amount * x.amount := ⟨_, rfl⟩
            rw [← hv] at hval
            have Hval := Lib.hid hval
            have Hv := Lib.hid hv
            clear hgt hmt hval hv
            go_wp2_with (at_builtin; (refine wpList_append_lies _ rfl _ _ _ rfl w2.heap.size 3 i1 _ 1 8 Try.underlying136 hi1 hv0 hv1 hv2 rfl (by omega) _ u _ rfl (Hp3.out.alloc _) ⟨w3.heap.size, 0, none⟩ 1 1 [.int .i64 (j : Int)] rfl rfl (World.news_of_block (cs := #[.int .i64 (j : Int)]) (t := 3) (fr := (0, 0)) (heap_alloc_new w3 _)) (by simp [Value.oneCell']) (by omega) (by unfold maxLen; omega) (by omega) (by simp; omega) (w3.heap.size + 1) (by simp) ?_; intro g5 cap5 w5 ho5 hg5 hat5 hlt5; have Ho5 := Lib.hid (own_cells_eq ho5 (ints_snoc _ (j : Int)).symm); clear ho5; have hq5 := (Hq3.out.alloc _).kept hg5 Hdj.out.keep; have Hq5 := Lib.hid hq5; have z5 := hg5.cell (((Gr.refl w3).alloc _).has z2) (fun e => absurd (hpl _ e.symm) (Nat.lt_irrefl _))))
            refine (absOf_any x.amount _ (by omega)).mono ?_
            rintro e w6 ⟨rfl, hw6⟩
            rw [← hw6, ← Hv.out]
            clear hw6
            have hs5 := hg5.size
            have hgz5 := (hgz3.alloc _).grown hg5 (fun jj h => own_base_le Hp3.out h)
            simp only [World.size_alloc] at hs5
            have hdj5 : Dj (.slice (some ⟨g5, 0, none⟩) (u + 1) cap5) (.slice B u d) := Hdj.out.next hat5 (fun jj h => by have := hql jj h; omega)
            have Hdj5 := Lib.hid hdj5
            have hg5l := (World.ownsRow.lt Ho5.out g5 rfl).2
            clear hat5 hg5 hdj5
            go_wp2_with (at_builtin; (refine wpList_append_lies _ rfl _ _ _ rfl w2.heap.size 2 i0 _ 1 8 Try.underlying33 hi0 hz0 hz1 hz2 rfl (by omega) _ u _ rfl (Hq5.out.alloc _) ⟨w5.heap.size, 0, none⟩ 1 1 [.int .i64 v] rfl rfl (World.news_of_block (cs := #[.int .i64 v]) (t := 2) (fr := (0, 0)) (heap_alloc_new w5 _)) (by simp [Value.oneCell']) (by omega) (by unfold maxLen; omega) (by omega) (by simp; omega) (w5.heap.size + 1) (by simp) ?_; intro g7 cap7 w7 ho7 hg7 hat7 hlt7; have Ho7 := Lib.hid (own_cells_eq ho7 (ints_snoc _ v).symm); clear ho7))
            have hgz7 := (hgz5.alloc _).grown hg7 (fun jj h => own_base_le Hq5.out h)
            have hp7 := (Ho5.out.alloc _).kept hg7 Hdj5.out.symm.keep
            have hdj7 : Dj (.slice (some ⟨g7, 0, none⟩) (u + 1) cap7) (.slice (some ⟨g5, 0, none⟩) (u + 1) cap5) := Hdj5.out.symm.next hat7 (fun jj h => by have e : g5 = jj := Option.some.inj h; omega)
            have Hp7 := Lib.hid hp7
            have Hdj7 := Lib.hid hdj7
            clear hg7 hat7 hp7 hdj7
            go_wp2_with fail
            go_roundw
            case rel => exact ⟨j + 1, by omega, by go_num, ⟨u + 1, by rw [Hpm.out, List.length_append, ← Hu.out]; rfl, _, _, _, _, rfl, rfl, Hdj7.out.symm, by rw [Hpm.out, natI_snoc]; exact Hp7.out, by rw [Hcm.out, Hval.out]; exact Ho7.out⟩, hgz7⟩
            case measure => simp [intOf]; omega
        · obtain rfl : j = n4 := by omega
          have hfull : posTo (wAt os y) j = pos (wAt os y) := by rw [← posTo_full, wAt_len, Hl4.out]
          have Hfull := Lib.hid hfull
          have Hp3 : Hid (wr.ownsRow w2.heap.size 3 1 (.slice A u c) u (ints (natI (pos (wAt os y))))) := Lib.hid (by rw [← hfull]; exact Hp.out)
          have Hq3 : Hid (wr.ownsRow w2.heap.size 2 1 (.slice B u d) u (ints (cmp (wAt os y) (wAt os y)))) := Lib.hid (by rw [cmp, ← hfull]; exact Hq.out)
          have hu : u = (pos (wAt os y)).length := by rw [Hu.out, hfull]
          have Hu2 := Lib.hid hu
          have hw := wAt_bnd Hok.out y
          have hgz3 := hgw2.trans hgz
          have Hown3 := Lib.hid (own_gr Hown2.out hgz)
          clear hfull Hp Hq Hown2
          by_cases h0 : u = 0
          · have hsum : (wAt os y).sum = 0 := by
              rw [← pos_nil (fun z hz => (hw z hz).1)]
              exact List.length_eq_zero_iff.1 (by omega)
            have Ha : Hid (alTo os rs (k + 1) = alTo os rs k) := Lib.hid (by rw [alTo_step Hy.out, alStep, if_pos hsum])
            have tb : ((u : Int) == 0) = true := by simp [h0]
            clear hsum hw hu
            go_wp2_with fail
            go_roundw
            case rel => exact ⟨k + 1, by omega, by go_num, by rw [Ha.out]; exact Hown3.out, hgz3⟩
            case measure => simp [intOf]; omega
          · have hne : ¬ (wAt os y).sum = 0 := by
              rw [← pos_nil (fun z hz => (hw z hz).1)]
              intro e; rw [e] at hu; exact h0 hu
            have tb : ((u : Int) == 0) = false := by simp; omega
            have hS := sum_pos_of (fun z hz => (hw z hz).1) hne
            have hcs : 0 < (cmp (wAt os y) (wAt os y)).sum := by rw [cmp_sum_self hw]; exact hS
            have hcb := cmp_bnd hw
            have hta := rd_abs Hrk.out Hy.out
            have Hfin := Lib.hid (al_places Hok.out Hrk.out Hy.out hne)
            have hsb := shares_bnd hta hcb hcs (by rw [cmp_len]; omega)
            obtain ⟨t, ht⟩ : ∃ t, t = sgn y.amount * y.amount := ⟨_, rfl⟩
            rw [← ht] at hta hsb
            have Ht := Lib.hid ht
            have Hsb := Lib.hid hsb
            have Hcb := Lib.hid hcb
            have Hcs := Lib.hid hcs
            have hyb := (rdOk_all ((rdsOk_all Hrk.out).2 k y Hy.out)).2.1
            clear hsb hcb hcs ht hne hS hw hu
            by_cases hneg : y.amount < 0
            · have hsv : sgn y.amount = (-1) := by rw [sgn, if_pos hneg]
              have Hsv := Lib.hid hsv
              clear hsv
              go_wp2_with fail
              refine (absOf_any y.amount _ (by omega)).mono ?_
              rintro e w6 ⟨rfl, hw6⟩
              rw [← hw6, ← Ht.out]
              clear hw6
              go_wp2_with fail
              refine (sharesOf_any t (cmp (wAt os y) (wAt os y)) _ (SlAt.of_own Hq3.out (by omega)) (by omega) (by omega) hta Hcb.out Hcs.out).mono ?_
              rintro e w7 ⟨g7, rfl, hsh, hg7⟩
              have Hsh := Lib.hid hsh
              have Hp7 := Lib.hid (own_gr Hp3.out hg7)
              have Hown7 := Lib.hid (own_gr Hown3.out hg7)
              have hgz7 := hgz3.trans hg7
              have hgg7 : g ≠ g7 := by
                have h1 := own_base_le hsh (k := g7) rfl
                have h2 := hgz.size
                omega
              have hAg : ∀ b o, A = some ⟨b, o, none⟩ → b ≠ g := by
                intro b o e
                have := own_base_le Hp3.out (k := b) (own_blk_of Hp3.out e)
                omega
              clear hsh
              go_wp2_with fail
              go_loopw [57] (fun i wz => ∃ q : Nat, q ≤ u ∧ i = .int .i64 q ∧ wz.ownsRow g 2 1 (.slice (some ⟨g, 0, none⟩) j j) j (ints (layTo (alTo os rs k) (pos (wAt os y)) (shares t (cmp (wAt os y) (wAt os y))) (sgn y.amount) q)) ∧ wz.ownsRow w2.heap.size 3 1 (.slice A u c) u (ints (natI (pos (wAt os y)))) ∧ wz.ownsRow wr.heap.size 2 1 (.slice (some ⟨g7, 0, none⟩) u u) u (ints (shares t (cmp (wAt os y) (wAt os y)))) ∧ Gr w wz) (fun i _ => u - (intOf i).toNat)
              case atStart => exact ⟨0, Nat.zero_le _, rfl, Hown7.out, Hp7.out, Hsh.out, hgz7⟩
              case round =>
                obtain ⟨q, hq, rfl, hown, hpl, hshr, hgq⟩ := hrel
                have Hown8 := Lib.hid hown
                have Hp8 := Lib.hid hpl
                have Hsh8 := Lib.hid hshr
                clear hown hpl hshr Hown7 Hp7 Hsh hgz7
                by_cases hqu : q < u
                · have hpq : (natI (pos (wAt os y)))[q]? = some (((pos (wAt os y)).getD q 0 : Nat) : Int) := by
                    have : q < (pos (wAt os y)).length := by have := Hu2.out; omega
                    simp [natI, this]
                  have hpm : (pos (wAt os y)).getD q 0 < j := by
                    have h1 : q < (pos (wAt os y)).length := by have := Hu2.out; omega
                    rw [pos_getD h1]
                    have := (mem_pos.1 (List.getElem_mem h1)).1
                    rw [wAt_len, Hl4.out] at this
                    exact this
                  have hsl := own_ilen Hsh8.out
                  have hvq := get_of_lt (l := shares t (cmp (wAt os y) (wAt os y))) (k := q) (by omega)
                  have hvb := Hsb.out q
                  have hnx : layTo (alTo os rs k) (pos (wAt os y)) (shares t (cmp (wAt os y) (wAt os y))) (sgn y.amount) (q + 1) = (layTo (alTo os rs k) (pos (wAt os y)) (shares t (cmp (wAt os y) (wAt os y))) (sgn y.amount) q).set ((pos (wAt os y)).getD q 0) (sgn y.amount * (shares t (cmp (wAt os y) (wAt os y))).getD q 0) := rfl
                  obtain ⟨v, hv⟩ : ∃ v, v = (shares t (cmp (wAt os y) (wAt os y))).getD q 0 := ⟨_, rfl⟩
                  rw [← hv] at hvq hvb hnx
                  obtain ⟨z, hz⟩ : ∃ z, z = (pos (wAt os y)).getD q 0 := ⟨_, rfl⟩
                  rw [← hz] at hpq hpm hnx
                  have hlz := own_ilen Hown8.out
                  have hgz' := get_of_lt (l := layTo (alTo os rs k) (pos (wAt os y)) (shares t (cmp (wAt os y) (wAt os y))) (sgn y.amount) q) (k := z) (by omega)
                  obtain ⟨d0, d1⟩ := own_int Hown8.out hgz'
                  obtain ⟨f0, _⟩ := own_int Hsh8.out hvq
                  obtain ⟨bA, oA, rfl, hbA, f1⟩ := (Sl.of_own Hp8.out).int hpq
                  have hbg := hAg _ _ rfl
                  have R := own_set_int Hown8.out z ((-1) * v)
                  obtain ⟨R1, R2⟩ := R
                  have hp9 := Hp8.out.kept R2 (Or.inr (by rw [own_blk_of Hp8.out rfl]; exact fun e => hbg (Option.some.inj e)))
                  have hs9 := Hsh8.out.kept R2 (Or.inr fun e => hgg7 (Option.some.inj e).symm)
                  have hg9 := hgq.grown R2 (fun _ e => by injection e with e; omega)
                  have esv : (-1) * v = -v := by omega
                  rw [esv] at R1 hp9 hs9 hg9
                  have esg : sgn y.amount * v = -v := by rw [Hsv.out]; exact esv
                  rw [esg] at hnx
                  have Hnx := Lib.hid hnx
                  have HR1 := Lib.hid R1
                  have Hp9 := Lib.hid hp9
                  have Hs9 := Lib.hid hs9
                  have Hg9 := Lib.hid hg9
                  have u1 : (q : Int) < (u : Int) := by omega
                  have u0 : (0 : Int) ≤ (q : Int) := by omega
                  have x1 : (z : Int) < (j : Int) := by omega
                  have x0 : (0 : Int) ≤ (z : Int) := by omega
                  clear hpq hvq hnx hv hz hgz' R1 R2 hp9 hs9 hg9 hlz hsl esv esg hAg
                  go_wp2_with fail
                  go_roundw
                  case rel => exact ⟨q + 1, by omega, by go_num, by rw [Hnx.out]; exact HR1.out, Hp9.out, Hs9.out, Hg9.out⟩
                  case measure => simp [intOf]; omega
                · obtain rfl : q = u := by omega
                  go_wp2_with fail
                  go_roundw
                  case rel => exact ⟨k + 1, by omega, by go_num, by rw [← Hfin.out, ← Ht.out, ← Hu2.out]; exact Hown8.out, hgq⟩
                  case measure => simp [intOf]; omega
            · have hsv : sgn y.amount = 1 := by rw [sgn, if_neg hneg]
              have Hsv := Lib.hid hsv
              clear hsv
              go_wp2_with fail
              refine (absOf_any y.amount _ (by omega)).mono ?_
              rintro e w6 ⟨rfl, hw6⟩
              rw [← hw6, ← Ht.out]
              clear hw6
              go_wp2_with fail
              refine (sharesOf_any t (cmp (wAt os y) (wAt os y)) _ (SlAt.of_own Hq3.out (by omega)) (by omega) (by omega) hta Hcb.out Hcs.out).mono ?_
              rintro e w7 ⟨g7, rfl, hsh, hg7⟩
              have Hsh := Lib.hid hsh
              have Hp7 := Lib.hid (own_gr Hp3.out hg7)
              have Hown7 := Lib.hid (own_gr Hown3.out hg7)
              have hgz7 := hgz3.trans hg7
              have hgg7 : g ≠ g7 := by
                have h1 := own_base_le hsh (k := g7) rfl
                have h2 := hgz.size
                omega
              have hAg : ∀ b o, A = some ⟨b, o, none⟩ → b ≠ g := by
                intro b o e
                have := own_base_le Hp3.out (k := b) (own_blk_of Hp3.out e)
                omega
              clear hsh
              go_wp2_with fail
              go_loopw [57] (fun i wz => ∃ q : Nat, q ≤ u ∧ i = .int .i64 q ∧ wz.ownsRow g 2 1 (.slice (some ⟨g, 0, none⟩) j j) j (ints (layTo (alTo os rs k) (pos (wAt os y)) (shares t (cmp (wAt os y) (wAt os y))) (sgn y.amount) q)) ∧ wz.ownsRow w2.heap.size 3 1 (.slice A u c) u (ints (natI (pos (wAt os y)))) ∧ wz.ownsRow wr.heap.size 2 1 (.slice (some ⟨g7, 0, none⟩) u u) u (ints (shares t (cmp (wAt os y) (wAt os y)))) ∧ Gr w wz) (fun i _ => u - (intOf i).toNat)
              case atStart => exact ⟨0, Nat.zero_le _, rfl, Hown7.out, Hp7.out, Hsh.out, hgz7⟩
              case round =>
                obtain ⟨q, hq, rfl, hown, hpl, hshr, hgq⟩ := hrel
                have Hown8 := Lib.hid hown
                have Hp8 := Lib.hid hpl
                have Hsh8 := Lib.hid hshr
                clear hown hpl hshr Hown7 Hp7 Hsh hgz7
                by_cases hqu : q < u
                · have hpq : (natI (pos (wAt os y)))[q]? = some (((pos (wAt os y)).getD q 0 : Nat) : Int) := by
                    have : q < (pos (wAt os y)).length := by have := Hu2.out; omega
                    simp [natI, this]
                  have hpm : (pos (wAt os y)).getD q 0 < j := by
                    have h1 : q < (pos (wAt os y)).length := by have := Hu2.out; omega
                    rw [pos_getD h1]
                    have := (mem_pos.1 (List.getElem_mem h1)).1
                    rw [wAt_len, Hl4.out] at this
                    exact this
                  have hsl := own_ilen Hsh8.out
                  have hvq := get_of_lt (l := shares t (cmp (wAt os y) (wAt os y))) (k := q) (by omega)
                  have hvb := Hsb.out q
                  have hnx : layTo (alTo os rs k) (pos (wAt os y)) (shares t (cmp (wAt os y) (wAt os y))) (sgn y.amount) (q + 1) = (layTo (alTo os rs k) (pos (wAt os y)) (shares t (cmp (wAt os y) (wAt os y))) (sgn y.amount) q).set ((pos (wAt os y)).getD q 0) (sgn y.amount * (shares t (cmp (wAt os y) (wAt os y))).getD q 0) := rfl
                  obtain ⟨v, hv⟩ : ∃ v, v = (shares t (cmp (wAt os y) (wAt os y))).getD q 0 := ⟨_, rfl⟩
                  rw [← hv] at hvq hvb hnx
                  obtain ⟨z, hz⟩ : ∃ z, z = (pos (wAt os y)).getD q 0 := ⟨_, rfl⟩
                  rw [← hz] at hpq hpm hnx
                  have hlz := own_ilen Hown8.out
                  have hgz' := get_of_lt (l := layTo (alTo os rs k) (pos (wAt os y)) (shares t (cmp (wAt os y) (wAt os y))) (sgn y.amount) q) (k := z) (by omega)
                  obtain ⟨d0, d1⟩ := own_int Hown8.out hgz'
                  obtain ⟨f0, _⟩ := own_int Hsh8.out hvq
                  obtain ⟨bA, oA, rfl, hbA, f1⟩ := (Sl.of_own Hp8.out).int hpq
                  have hbg := hAg _ _ rfl
                  have R := own_set_int Hown8.out z (1 * v)
                  obtain ⟨R1, R2⟩ := R
                  have hp9 := Hp8.out.kept R2 (Or.inr (by rw [own_blk_of Hp8.out rfl]; exact fun e => hbg (Option.some.inj e)))
                  have hs9 := Hsh8.out.kept R2 (Or.inr fun e => hgg7 (Option.some.inj e).symm)
                  have hg9 := hgq.grown R2 (fun _ e => by injection e with e; omega)
                  have esv : 1 * v = v := by omega
                  rw [esv] at R1 hp9 hs9 hg9
                  have esg : sgn y.amount * v = v := by rw [Hsv.out]; exact esv
                  rw [esg] at hnx
                  have Hnx := Lib.hid hnx
                  have HR1 := Lib.hid R1
                  have Hp9 := Lib.hid hp9
                  have Hs9 := Lib.hid hs9
                  have Hg9 := Lib.hid hg9
                  have u1 : (q : Int) < (u : Int) := by omega
                  have u0 : (0 : Int) ≤ (q : Int) := by omega
                  have x1 : (z : Int) < (j : Int) := by omega
                  have x0 : (0 : Int) ≤ (z : Int) := by omega
                  clear hpq hvq hnx hv hz hgz' R1 R2 hp9 hs9 hg9 hlz hsl esv esg hAg
                  go_wp2_with fail
                  go_roundw
                  case rel => exact ⟨q + 1, by omega, by go_num, by rw [Hnx.out]; exact HR1.out, Hp9.out, Hs9.out, Hg9.out⟩
                  case measure => simp [intOf]; omega
                · obtain rfl : q = u := by omega
                  go_wp2_with fail
                  go_roundw
                  case rel => exact ⟨k + 1, by omega, by go_num, by rw [← Hfin.out, ← Ht.out, ← Hu2.out]; exact Hown8.out, hgq⟩
                  case measure => simp [intOf]; omega
    · obtain rfl : k = n3 := by omega
      go_wp2_with fail
      go_ret
      exact ⟨_, rfl, own_base (by rw [al, Hl3.out]; exact Hown.out) hgw, hgr⟩
end Go.Proofs.Ytejfpajbkgfiaaa
/-
  Allocation: Allocate and UnallocatedOf: the contracts.
-/
namespace Go.Proofs.Ytejfpajbkgfiaaa
open Go.ChangeShapes Go.WideShapes Go.ChangeAt Go.RowKit

def alRes (n : GNet) (os : List GOrd) (l : List GRd) : List Int := if rdCode n os l = 0 then al os l else []
def unRes (n : GNet) (os : List GOrd) (l : List GRd) : List Int := if rdCode n os l = 0 then unTo os l l.length else []
theorem spAllocate_any {A1 A2 A4 A3 : Option Addr} {n1 c1 n2 c2 n4 c4 n3 c3 : Nat} (n : GNet) (os : List GOrd) (l : List GRd) (w : World) (hA : NetAt w A1 n1 c1 A2 n2 c2 n) (hO : SlAt w 4 A4 n4 c4 (os.flatMap GOrd.cells)) (hL : SlAt w 2 A3 n3 c3 (l.flatMap GRd.cells)) :
    Calls Try.prog 74 #[.agg #[.slice A1 n1 c1, .slice A2 n2 c2], .slice A4 n4 c4, .slice A3 n3 c3] w fun e w' => ∃ A m c, e = .returned (.tuple #[.slice A m c, .int .i64 (rdCode n os l)]) ∧ m ≤ 1048576 ∧ w'.ownsRow w.heap.size 2 1 (.slice A m c) m (ints (alRes n os l)) ∧ Gr w w' := by
  have hm4 := hO.small
  have hm3 := hL.small
  have hl4 := hO.sl.len GOrd.cells_len (by omega)
  have hl3 := hL.sl.len GRd.cells_len (by omega)
  have HA := Lib.hid hA
  have HO := Lib.hid hO
  have HL := Lib.hid hL
  have Hl4 := Lib.hid hl4
  have Hl3 := Lib.hid hl3
  clear hA hO hL hl4 hl3
  go_enter Try.func74, Try.ntmps74
  go_wp2_with fail
  refine (l28Code_any n os l _ (HA.out.gr ((Gr.refl _).alloc _)) (HO.out.gr ((Gr.refl _).alloc _)) (HL.out.gr ((Gr.refl _).alloc _))).mono ?_
  rintro e w0 ⟨rfl, hg1⟩
  have hg0 : Gr w w0 := ((Gr.refl _).alloc _).trans hg1
  clear hg1
  by_cases hc : rdCode n os l = 0
  · have Hc := Lib.hid hc
    have tb : (rdCode n os l != 0) = false := by simp [hc]
    have Hok : Hid (ordsOk n1 os = true) := Lib.hid (by rw [← HA.out.l1]; exact (ordCode_zero (rdCode_zero hc).1).2)
    have Hrk : Hid (rdsOk n1 l = true) := Lib.hid (by rw [← HA.out.l1]; exact (rdCode_zero hc).2)
    clear hc
    go_wp2_with fail
    refine (l28Allocate_any n1 n1 os l _ (HO.out.gr hg0) (HL.out.gr hg0) Hok.out Hrk.out).mono ?_
    rintro e w2 ⟨g, c, h, u, d, rfl, ho, _, hg2⟩
    have Ho := Lib.hid (own_base ho hg0.size)
    clear ho
    go_wp2_with fail
    go_ret2
    refine ⟨_, _, _, by rw [Hc.out]; rfl, hm4, ?_, hg0.trans hg2⟩
    rw [alRes, if_pos Hc.out]
    exact Ho.out
  · have Hc := Lib.hid hc
    have tb : (rdCode n os l != 0) = true := by simp [hc]
    clear hc
    go_wp2_with fail
    go_ret2
    refine ⟨none, 0, 0, rfl, by omega, ?_, hg0⟩
    rw [alRes, if_neg Hc.out]
    exact World.ownsRow_nil _ _ _ _
theorem Allocate_any {A1 A2 A4 A3 : Option Addr} {n1 c1 n2 c2 n4 c4 n3 c3 : Nat} (n : GNet) (os : List GOrd) (l : List GRd) (w : World) (hA : NetAt w A1 n1 c1 A2 n2 c2 n) (hO : SlAt w 4 A4 n4 c4 (os.flatMap GOrd.cells)) (hL : SlAt w 2 A3 n3 c3 (l.flatMap GRd.cells)) :
    Calls Try.prog 73 #[.agg #[.slice A1 n1 c1, .slice A2 n2 c2], .slice A4 n4 c4, .slice A3 n3 c3] w fun e w' => ∃ A m c, e = .returned (.tuple #[.slice A m c, .int .i64 (rdCode n os l)]) ∧ m ≤ 1048576 ∧ w'.ownsRow w.heap.size 2 1 (.slice A m c) m (ints (alRes n os l)) ∧ Gr w w' := by
  have hm4 := hO.small
  have hm3 := hL.small
  have hl4 := hO.sl.len GOrd.cells_len (by omega)
  have hl3 := hL.sl.len GRd.cells_len (by omega)
  have HA := Lib.hid hA
  have HO := Lib.hid hO
  have HL := Lib.hid hL
  have Hl4 := Lib.hid hl4
  have Hl3 := Lib.hid hl3
  clear hA hO hL hl4 hl3
  go_enter Try.func73, Try.ntmps73
  go_wp2_with fail
  refine (checkReadings_any n os l _ (HA.out.gr ((Gr.refl _).alloc _)) (HO.out.gr ((Gr.refl _).alloc _)) (HL.out.gr ((Gr.refl _).alloc _))).mono ?_
  rintro e w0 ⟨rfl, hg1⟩
  have hg0 : Gr w w0 := ((Gr.refl _).alloc _).trans hg1
  clear hg1
  by_cases hc : rdCode n os l = 0
  · have Hc := Lib.hid hc
    have tb : (rdCode n os l != 0) = false := by simp [hc]
    have Hok : Hid (ordsOk n1 os = true) := Lib.hid (by rw [← HA.out.l1]; exact (ordCode_zero (rdCode_zero hc).1).2)
    have Hrk : Hid (rdsOk n1 l = true) := Lib.hid (by rw [← HA.out.l1]; exact (rdCode_zero hc).2)
    clear hc
    go_wp2_with fail
    refine (allocated_any n1 n1 os l _ (HO.out.gr hg0) (HL.out.gr hg0) Hok.out Hrk.out).mono ?_
    rintro e w2 ⟨g, rfl, ho, hg2⟩
    have Ho := Lib.hid (own_base ho hg0.size)
    clear ho
    go_wp2_with fail
    go_ret2
    refine ⟨_, _, _, by rw [Hc.out]; rfl, hm4, ?_, hg0.trans hg2⟩
    rw [alRes, if_pos Hc.out]
    exact Ho.out
  · have Hc := Lib.hid hc
    have tb : (rdCode n os l != 0) = true := by simp [hc]
    clear hc
    go_wp2_with fail
    go_ret2
    refine ⟨none, 0, 0, rfl, by omega, ?_, hg0⟩
    rw [alRes, if_neg Hc.out]
    exact World.ownsRow_nil _ _ _ _
theorem unalloc1_any (g : Nat) (x : GOrd) (y : GRd) (w : World) (hy : y.amount ≠ 0) (h0 : w.cell? ⟨g, 0, none⟩ = some (.int .i64 y.node)) (h1 : w.cell? ⟨g, 1, none⟩ = some (.int .i64 y.amount)) :
    Calls Try.prog 137 #[.agg #[.int .i64 x.shipper, .int .i64 x.node, .int .i64 x.amount, .int .i64 x.cls], .pointer (some ⟨g, 0, none⟩)] w fun e w' => e = .returned (.bool (mtB x y)) ∧ Gr w w' := by
  have hg : Gr w (w.alloc (.cells #[.int .i64 x.shipper, .int .i64 x.node, .int .i64 x.amount, .int .i64 x.cls] 65)) := (Gr.refl _).alloc _
  have z0 := hg.has h0
  have z1 := hg.has h1
  clear h0 h1
  go_enter Try.func137, Try.ntmps137
  go_wp2_with fail
  refine (matches_any x y _ hy).mono ?_
  rintro e w1 ⟨rfl, hg1⟩
  go_wp2_with fail
  go_ret
  exact ⟨rfl, hg.trans hg1⟩
theorem ContainsFunc_unallocated {A : Option Addr} {n c : Nat} (g : Nat) (y : GRd) (l : List GOrd) (w : World) (hn : n ≤ 1048576) (hA : Sl w 4 A n (l.flatMap GOrd.cells)) (hy : y.amount ≠ 0) (h0 : w.cell? ⟨g, 0, none⟩ = some (.int .i64 y.node)) (h1 : w.cell? ⟨g, 1, none⟩ = some (.int .i64 y.amount)) :
    Calls Try.prog 136 #[.slice A n c, .func (.func 137) #[] #[.pointer (some ⟨g, 0, none⟩)]] w fun e w' => e = .returned (.bool (l.any fun x => mtB x y)) ∧ Gr w w' := by
  have HA := Lib.hid hA
  have H0 := Lib.hid h0
  have H1 := Lib.hid h1
  clear hA h0 h1
  go_enter Try.func136, Try.ntmps136
  go_wp2_with fail
  refine (IndexFunc_unallocated (.pointer (some ⟨g, 0, none⟩)) (fun x => mtB x y) A n c l _ hn HA.out (fun k x W _ hW => unalloc1_any g x y W hy (hW.has H0.out) (hW.has H1.out))).mono ?_
  rintro e w1 ⟨rfl, hg⟩
  go_wp2_with fail
  go_ret
  exact ⟨ret_bool idxOf_any, hg⟩
theorem any_mt {nn : Int} {os : List GOrd} (h : ordsOk nn os = true) (y : GRd) : (os.any fun x => mtB x y) = false ↔ (wAt os y).sum = 0 := by
  rw [sum_zero_all (fun z hz => (wAt_bnd h y z hz).1), List.any_eq_false]
  constructor
  · intro e z hz
    have hb := (wAt_bnd h y z hz).1
    rw [wAt, wts, List.mem_map] at hz
    obtain ⟨x, hx, rfl⟩ := hz
    have := e x hx
    simp [mtB] at this
    omega
  · intro e x hx
    have := e _ (List.mem_map.2 ⟨x, hx, rfl⟩)
    simp [mtB, this]
set_option maxHeartbeats 1600000 in
set_option maxRecDepth 100000 in
theorem UnallocatedOf_any {A1 A2 A4 A3 : Option Addr} {n1 c1 n2 c2 n4 c4 n3 c3 : Nat} (n : GNet) (os : List GOrd) (l : List GRd) (w : World) (hA : NetAt w A1 n1 c1 A2 n2 c2 n) (hO : SlAt w 4 A4 n4 c4 (os.flatMap GOrd.cells)) (hL : SlAt w 2 A3 n3 c3 (l.flatMap GRd.cells)) :
    Calls Try.prog 79 #[.agg #[.slice A1 n1 c1, .slice A2 n2 c2], .slice A4 n4 c4, .slice A3 n3 c3] w fun e w' => ∃ A m c, e = .returned (.tuple #[.slice A m c, .int .i64 (rdCode n os l)]) ∧ m ≤ 1048576 ∧ w'.ownsRow w.heap.size 2 1 (.slice A m c) m (ints (unRes n os l)) ∧ Gr w w' := by
  obtain ⟨i0, hi0, hz0, hz1, hz2⟩ := info_parts infoInt64
  have hm4 := hO.small
  have hm3 := hL.small
  have hl4 := hO.sl.len GOrd.cells_len (by omega)
  have hl3 := hL.sl.len GRd.cells_len (by omega)
  have HA := Lib.hid hA
  have HO := Lib.hid hO
  have HL := Lib.hid hL
  have Hl4 := Lib.hid hl4
  have Hl3 := Lib.hid hl3
  clear hA hO hL hl4 hl3
  go_enter Try.func79, Try.ntmps79
  go_wp2_with fail
  refine (checkReadings_any n os l _ (HA.out.gr ((Gr.refl _).alloc _)) (HO.out.gr ((Gr.refl _).alloc _)) (HL.out.gr ((Gr.refl _).alloc _))).mono ?_
  rintro e w0 ⟨rfl, hg1⟩
  have hg0 : Gr w w0 := ((Gr.refl _).alloc _).trans hg1
  clear hg1
  by_cases hc : rdCode n os l = 0
  · have Hc := Lib.hid hc
    have tb : (rdCode n os l != 0) = false := by simp [hc]
    have Hok : Hid (ordsOk n1 os = true) := Lib.hid (by rw [← HA.out.l1]; exact (ordCode_zero (rdCode_zero hc).1).2)
    have Hrk : Hid (rdsOk n1 l = true) := Lib.hid (by rw [← HA.out.l1]; exact (rdCode_zero hc).2)
    clear hc
    go_wp2_with fail
    go_loopw [9, 21] (fun o i wr => ∃ k : Nat, k ≤ n3 ∧ i = .int .i64 k ∧ (∃ u A c, u ≤ k ∧ o = .slice A u c ∧ wr.ownsRow w.heap.size 2 1 o u (ints (unTo os l k))) ∧ Gr w wr) (fun _ i _ => n3 - (intOf i).toNat)
    case atStart => exact ⟨0, Nat.zero_le _, rfl, ⟨0, _, _, Nat.le_refl _, rfl, World.ownsRow_nil _ _ _ _⟩, hg0⟩
    case round =>
      obtain ⟨k, hk, rfl, ⟨u, A, c, hu, rfl, hown⟩, hgr⟩ := hrel
      have Hown := Lib.hid hown
      clear hown
      by_cases hlt : k < n3
      · obtain ⟨y, hy⟩ : ∃ y, l[k]? = some y := ⟨_, List.getElem?_eq_getElem (by have := Hl3.out; omega)⟩
        obtain ⟨b, o, rfl, hb, r0, r1⟩ := (HL.out.sl.gr hgr).rd hy
        have hy0 := (rdOk_all ((rdsOk_all Hrk.out).2 k y hy)).2.2
        have Hy := Lib.hid hy
        have hg2 : Gr wr (wr.alloc (.cells #[.int .i64 y.node, .int .i64 y.amount] 113)) := (Gr.refl _).alloc _
        have y2 : (wr.alloc (.cells #[.int .i64 y.node, .int .i64 y.amount] 113)).cell? ⟨wr.heap.size, 0, none⟩ = some (.int .i64 y.node) := by simp [go_sem]
        have y3 : (wr.alloc (.cells #[.int .i64 y.node, .int .i64 y.amount] 113)).cell? ⟨wr.heap.size, 1, none⟩ = some (.int .i64 y.amount) := by simp [go_sem]
        clear hy
        go_wp2_with fail
        refine (ContainsFunc_unallocated wr.heap.size y os _ hm4 (HO.out.sl.gr (hgr.trans hg2)) hy0 y2 y3).mono ?_
        rintro e w3 ⟨rfl, hg3⟩
        have hgw3 := (hgr.trans hg2).trans hg3
        have Hown3 := Lib.hid (own_gr Hown.out (hg2.trans hg3))
        clear r0 r1 y2 y3 hg2 hg3
        cases hany : (os.any fun x => mtB x y) with
        | true =>
          have hne : ¬ (wAt os y).sum = 0 := fun e => by rw [← any_mt Hok.out y, hany] at e; cases e
          have Hu := Lib.hid (unTo_miss Hy.out hne)
          clear hne
          go_wp2_with fail
          go_roundw
          case rel => exact ⟨k + 1, by omega, by go_num, ⟨_, _, _, by omega, rfl, by rw [Hu.out]; exact Hown3.out⟩, hgw3⟩
          case measure => simp [intOf]; omega
        | false =>
          have Hu := Lib.hid (unTo_hit Hy.out ((any_mt Hok.out y).1 hany))
          have hbs := hgw3.size
          go_wp2_with (at_builtin; (refine wpList_append_lies _ rfl _ _ _ rfl w.heap.size 2 i0 _ 1 8 Try.underlying33 hi0 hz0 hz1 hz2 rfl (by omega) _ u _ rfl (Hown3.out.alloc _) ⟨w3.heap.size, 0, none⟩ 1 1 [.int .i64 (k : Int)] rfl rfl (World.news_of_block (cs := #[.int .i64 (k : Int)]) (t := 2) (fr := (0, 0)) (heap_alloc_new w3 _)) (by simp [Value.oneCell']) (by omega) (by unfold maxLen; omega) (by omega) (by simp; omega) (w3.heap.size + 1) (by simp) ?_; intro h4 cap4 w4 ho4 hg4 hat4 hlt4; have Ho4 := Lib.hid (own_cells_eq ho4 (ints_snoc _ (k : Int)).symm); clear ho4))
          have hgw4 := (hgw3.alloc _).grown hg4 (fun j hj => own_base_le Hown3.out hj)
          clear hat4 hlt4 hg4
          go_wp2_with fail
          go_roundw
          case rel => exact ⟨k + 1, by omega, by go_num, ⟨_, _, _, by omega, rfl, by rw [Hu.out]; exact Ho4.out⟩, hgw4⟩
          case measure => simp [intOf]; omega
      · obtain rfl : k = n3 := by omega
        go_wp2_with fail
        go_ret2
        refine ⟨_, _, _, by rw [Hc.out]; rfl, by omega, ?_, hgr⟩
        rw [unRes, if_pos Hc.out, Hl3.out]
        exact Hown.out
  · have Hc := Lib.hid hc
    have tb : (rdCode n os l != 0) = true := by simp [hc]
    clear hc
    go_wp2_with fail
    go_ret2
    refine ⟨none, 0, 0, rfl, by omega, ?_, hg0⟩
    rw [unRes, if_neg Hc.out]
    exact World.ownsRow_nil _ _ _ _
end Go.Proofs.Ytejfpajbkgfiaaa
/-
  Allocation: DeviationsOf and ShipperBalance: the contracts.
-/
namespace Go.Proofs.Ytejfpajbkgfiaaa
open Go.ChangeShapes Go.WideShapes Go.ChangeAt Go.RowKit

def dvAt (g : List Int) (os : List GOrd) (i : Nat) : Int := g.getD i 0 - (os.getD i GOrd.zero).amount
def dvRes (n : GNet) (os : List GOrd) (l : List GRd) : List Int := if rdCode n os l = 0 then (List.range os.length).map (dvAt (al os l) os) else []
theorem dvAt_of {g : List Int} {os : List GOrd} {k : Nat} {x : GOrd} (hx : os[k]? = some x) : dvAt g os k = g.getD k 0 - x.amount := by
  rw [dvAt, List.getD_eq_getElem?_getD (l := os), hx]; rfl
theorem range_snoc (f : Nat → Int) (k : Nat) : (List.range (k + 1)).map f = (List.range k).map f ++ [f k] := by rw [List.range_succ]; simp
theorem al_bnd {nn nn' : Int} {os : List GOrd} {rs : List GRd} (h : ordsOk nn os = true) (hr : rdsOk nn' rs = true) (i : Nat) : -48000000000 ≤ (al os rs).getD i 0 ∧ (al os rs).getD i 0 ≤ 48000000000 := by
  have h1 := alTo_bnd h hr rs.length i
  have h2 := (rdsOk_all hr).1
  rw [al]; omega
theorem al_len {nn : Int} {os : List GOrd} (h : ordsOk nn os = true) (rs : List GRd) : (al os rs).length = os.length := alTo_len h rs _
def sbTo (os : List GOrd) (g : List Int) : Nat → List Int
  | 0 => List.replicate 16 0
  | k + 1 => addAt (sbTo os g k) (os.getD k GOrd.zero).shipper.toNat (g.getD k 0)
def sbRes (n : GNet) (os : List GOrd) (l : List GRd) : List Int := if rdCode n os l = 0 then sbTo os (al os l) os.length else []
theorem sbTo_next {os : List GOrd} {g : List Int} {k : Nat} {x : GOrd} (hx : os[k]? = some x) : sbTo os g (k + 1) = (sbTo os g k).set x.shipper.toNat ((sbTo os g k).getD x.shipper.toNat 0 + g.getD k 0) := by
  rw [sbTo, List.getD_eq_getElem?_getD (l := os), hx]; rfl
theorem sbTo_len (os : List GOrd) (g : List Int) (k : Nat) : (sbTo os g k).length = 16 := by
  induction k with
  | zero => simp [sbTo]
  | succ k ih => rw [sbTo, addAt_length, ih]
theorem sbTo_bnd {os : List GOrd} {g : List Int} (hg : ∀ i, -48000000000 ≤ g.getD i 0 ∧ g.getD i 0 ≤ 48000000000) (k : Nat) : Bnd (48000000000 * (k : Int)) (sbTo os g k) := by
  induction k with
  | zero => exact (Bnd.zeros 16).mono (by omega)
  | succ k ih =>
    rw [sbTo]
    have h := hg k
    exact (ih.addAt (D := 48000000000) (by omega) ⟨by omega, by omega⟩ _).mono (by push_cast; omega)
set_option maxHeartbeats 3200000 in
set_option maxRecDepth 100000 in
theorem DeviationsOf_any {A1 A2 A4 A3 : Option Addr} {n1 c1 n2 c2 n4 c4 n3 c3 : Nat} (n : GNet) (os : List GOrd) (l : List GRd) (w : World) (hA : NetAt w A1 n1 c1 A2 n2 c2 n) (hO : SlAt w 4 A4 n4 c4 (os.flatMap GOrd.cells)) (hL : SlAt w 2 A3 n3 c3 (l.flatMap GRd.cells)) :
    Calls Try.prog 69 #[.agg #[.slice A1 n1 c1, .slice A2 n2 c2], .slice A4 n4 c4, .slice A3 n3 c3] w fun e w' => ∃ A m c, e = .returned (.tuple #[.slice A m c, .int .i64 (rdCode n os l)]) ∧ m ≤ 1048576 ∧ w'.ownsRow w.heap.size 2 1 (.slice A m c) m (ints (dvRes n os l)) ∧ Gr w w' := by
  obtain ⟨i0, hi0, hz0, hz1, hz2⟩ := info_parts infoInt64
  have hm4 := hO.small
  have hm3 := hL.small
  have hl4 := hO.sl.len GOrd.cells_len (by omega)
  have hl3 := hL.sl.len GRd.cells_len (by omega)
  have HA := Lib.hid hA
  have HO := Lib.hid hO
  have HL := Lib.hid hL
  have Hl4 := Lib.hid hl4
  have Hl3 := Lib.hid hl3
  clear hA hO hL hl4 hl3
  go_enter Try.func69, Try.ntmps69
  go_wp2_with fail
  refine (checkReadings_any n os l _ (HA.out.gr ((Gr.refl _).alloc _)) (HO.out.gr ((Gr.refl _).alloc _)) (HL.out.gr ((Gr.refl _).alloc _))).mono ?_
  rintro e w0 ⟨rfl, hg1⟩
  have hg0 : Gr w w0 := ((Gr.refl _).alloc _).trans hg1
  clear hg1
  by_cases hc : rdCode n os l = 0
  · have Hc := Lib.hid hc
    have tb : (rdCode n os l != 0) = false := by simp [hc]
    have Hok : Hid (ordsOk n1 os = true) := Lib.hid (by rw [← HA.out.l1]; exact (ordCode_zero (rdCode_zero hc).1).2)
    have Hrk : Hid (rdsOk n1 l = true) := Lib.hid (by rw [← HA.out.l1]; exact (rdCode_zero hc).2)
    clear hc
    go_wp2_with fail
    refine (allocated_any n1 n1 os l _ (HO.out.gr hg0) (HL.out.gr hg0) Hok.out Hrk.out).mono ?_
    rintro e w2 ⟨g, rfl, ho, hg2⟩
    have hgb := own_base_le ho (k := g) rfl
    have hgs := hg0.size
    have Ho := Lib.hid (own_base ho hgs)
    have hgw2 := hg0.trans hg2
    have Hal := Lib.hid (al_len Hok.out l)
    clear ho
    go_wp2_with fail
    go_loopw [24] (fun i wr => ∃ k : Nat, k ≤ n4 ∧ i = .int .i64 k ∧ wr.ownsRow w.heap.size 2 1 (.slice (some ⟨g, 0, none⟩) n4 n4) n4 (ints (overTo (dvAt (al os l) os) (al os l) k)) ∧ Gr w wr) (fun i _ => n4 - (intOf i).toNat)
    case atStart => exact ⟨0, Nat.zero_le _, rfl, by rw [overTo_zero]; exact Ho.out, hgw2⟩
    case round =>
      obtain ⟨k, hk, rfl, hown, hgr⟩ := hrel
      have Hown := Lib.hid hown
      clear hown Ho hgw2
      by_cases hlt : k < n4
      · obtain ⟨x, hx⟩ : ∃ x, os[k]? = some x := ⟨_, List.getElem?_eq_getElem (by have := Hl4.out; omega)⟩
        obtain ⟨b, o, rfl, hb, r0, r1, r2, r3⟩ := (HO.out.sl.gr hgr).ord hx
        have hxb := (ordOk_all ((ordsOk_all Hok.out).2 k x hx)).2.2.1
        have hdv := dvAt_of (g := al os l) hx
        have hkl : k < (al os l).length := by have := Hal.out; have := Hl4.out; omega
        have hget := get_of_lt hkl
        have hvb := al_bnd Hok.out Hrk.out k
        obtain ⟨v, hv⟩ : ∃ v, v = (al os l).getD k 0 := ⟨_, rfl⟩
        rw [← hv] at hget hvb hdv
        have hgl := (World.ownsRow.lt Hown.out g rfl).2
        have Hdv := Lib.hid hdv
        have Hget := Lib.hid hget
        have Hkl := Lib.hid hkl
        have t1 : (k : Int) < (n4 : Int) := by omega
        have t0 : (0 : Int) ≤ (k : Int) := by omega
        clear hx hget hv hdv hkl
        go_wp2_with fail
        obtain ⟨w5, hw5⟩ : ∃ w5, w5 = wr.alloc (.cells #[.int .i64 x.shipper, .int .i64 x.node, .int .i64 x.amount, .int .i64 x.cls] 65) := ⟨_, rfl⟩
        have hg3 : Gr wr w5 := by rw [hw5]; exact (Gr.refl _).alloc _
        have z2 : w5.cell? ⟨wr.heap.size, 2, none⟩ = some (.int .i64 x.amount) := by rw [hw5]; simp [go_sem]
        rw [← hw5]
        have hown3 := own_gr Hown.out hg3
        obtain ⟨d0, d1⟩ := own_int hown3 (k := k) (x := v) (by rw [overTo_get]; exact Hget.out)
        obtain ⟨R1, R2⟩ := own_set_int hown3 k (v - x.amount)
        rw [overTo_set _ _ Hkl.out Hdv.out.symm] at R1
        have hg4 := (hgr.trans hg3).grown R2 (fun _ e => by injection e with e; omega)
        have HR1 := Lib.hid R1
        have Hg4 := Lib.hid hg4
        have hwr : IntKind.i64.wrap (v - x.amount) = v - x.amount := IntWalk.i64_in _ (by omega)
        clear hw5 R1 R2 hg4 hown3 hg3 r0 r1 r2 r3
        go_region
        go_wp2_with fail
        go_roundw
        case rel => exact ⟨k + 1, by omega, by go_num, HR1.out.drew, Hg4.out.drew⟩
        case measure => simp [intOf]; omega
      · obtain rfl : k = n4 := by omega
        go_wp2_with fail
        go_ret2
        refine ⟨_, _, _, by rw [Hc.out]; rfl, hm4, ?_, hgr⟩
        have h := Hown.out
        have e : k = (al os l).length := by rw [Hal.out, Hl4.out]
        rw [dvRes, if_pos Hc.out, Hl4.out]
        have h2 := overTo_full (dvAt (al os l) os) (al os l)
        rw [← e] at h2
        rw [h2] at h
        exact h
  · have Hc := Lib.hid hc
    have tb : (rdCode n os l != 0) = true := by simp [hc]
    clear hc
    go_wp2_with fail
    go_ret2
    refine ⟨none, 0, 0, rfl, by omega, ?_, hg0⟩
    rw [dvRes, if_neg Hc.out]
    exact World.ownsRow_nil _ _ _ _
set_option maxHeartbeats 3200000 in
set_option maxRecDepth 100000 in
theorem spDeviationsOf_any {A1 A2 A4 A3 : Option Addr} {n1 c1 n2 c2 n4 c4 n3 c3 : Nat} (n : GNet) (os : List GOrd) (l : List GRd) (w : World) (hA : NetAt w A1 n1 c1 A2 n2 c2 n) (hO : SlAt w 4 A4 n4 c4 (os.flatMap GOrd.cells)) (hL : SlAt w 2 A3 n3 c3 (l.flatMap GRd.cells)) :
    Calls Try.prog 70 #[.agg #[.slice A1 n1 c1, .slice A2 n2 c2], .slice A4 n4 c4, .slice A3 n3 c3] w fun e w' => ∃ A m c, e = .returned (.tuple #[.slice A m c, .int .i64 (rdCode n os l)]) ∧ m ≤ 1048576 ∧ w'.ownsRow w.heap.size 2 1 (.slice A m c) m (ints (dvRes n os l)) ∧ Gr w w' := by
  obtain ⟨i0, hi0, hz0, hz1, hz2⟩ := info_parts infoInt64
  have hm4 := hO.small
  have hm3 := hL.small
  have hl4 := hO.sl.len GOrd.cells_len (by omega)
  have hl3 := hL.sl.len GRd.cells_len (by omega)
  have HA := Lib.hid hA
  have HO := Lib.hid hO
  have HL := Lib.hid hL
  have Hl4 := Lib.hid hl4
  have Hl3 := Lib.hid hl3
  clear hA hO hL hl4 hl3
  go_enter Try.func70, Try.ntmps70
  go_wp2_with fail
  refine (spAllocate_any n os l _ (HA.out.gr ((Gr.refl _).alloc _)) (HO.out.gr ((Gr.refl _).alloc _)) (HL.out.gr ((Gr.refl _).alloc _))).mono ?_
  rintro e w0 ⟨A, m, c, rfl, hmm, ho, hg1⟩
  have hg0 : Gr w w0 := ((Gr.refl _).alloc _).trans hg1
  have Ho := Lib.hid ho
  clear hg1 ho
  by_cases hc : rdCode n os l = 0
  · have Hc := Lib.hid hc
    have tb : (rdCode n os l != 0) = false := by simp [hc]
    have Hok : Hid (ordsOk n1 os = true) := Lib.hid (by rw [← HA.out.l1]; exact (ordCode_zero (rdCode_zero hc).1).2)
    have Hrk : Hid (rdsOk n1 l = true) := Lib.hid (by rw [← HA.out.l1]; exact (rdCode_zero hc).2)
    clear hc
    have Hal := Lib.hid (al_len Hok.out l)
    have hml : m = n4 := by
      have := own_ilen Ho.out
      rw [alRes, if_pos Hc.out, Hal.out, Hl4.out] at this
      exact this.symm
    subst hml
    have Ho2 : Hid (w0.ownsRow (w.alloc (.cells #[.slice A1 n1 c1, .slice A2 n2 c2] 27)).heap.size 2 1 (.slice A m c) m (ints (al os l))) := Lib.hid (by have := Ho.out; rw [alRes, if_pos Hc.out] at this; exact this)
    clear Ho
    go_wp2_with fail
    go_loopw [10, 11] (fun o i wr => ∃ k : Nat, k ≤ m ∧ i = .int .i64 k ∧ (∃ g c, o = .slice (some ⟨g, 0, none⟩) k c ∧ wr.ownsRow w0.heap.size 2 1 (.slice (some ⟨g, 0, none⟩) k c) k (ints ((List.range k).map (dvAt (al os l) os)))) ∧ Gr w0 wr) (fun _ i _ => m - (intOf i).toNat)
    case atStart => exact ⟨0, Nat.zero_le _, rfl, ⟨_, _, rfl, World.ownsRow_lit w0 #[] 0 (Nat.le_refl _) (by unfold maxLen; omega) rfl⟩, (Gr.refl _).alloc _⟩
    case round =>
      obtain ⟨k, hk, rfl, ⟨g1, c3, rfl, hownr⟩, hgr⟩ := hrel
      have Hown := Lib.hid hownr
      clear hownr
      by_cases hlt : k < m
      · obtain ⟨x, hx⟩ : ∃ x, os[k]? = some x := ⟨_, List.getElem?_eq_getElem (by have := Hl4.out; omega)⟩
        obtain ⟨bO, oO, rfl, hbO, r0, r1, r2, r3⟩ := (HO.out.sl.gr hg0).ord hx
        replace r2 := hgr.has r2
        have hxb := (ordOk_all ((ordsOk_all Hok.out).2 k x hx)).2.2.1
        have hdv := dvAt_of (g := al os l) hx
        have hkl : k < (al os l).length := by have := Hal.out; have := Hl4.out; omega
        have hget := get_of_lt hkl
        have hvb := al_bnd Hok.out Hrk.out k
        have hst := range_snoc (dvAt (al os l) os) k
        obtain ⟨v, hv⟩ : ∃ v, v = (al os l).getD k 0 := ⟨_, rfl⟩
        rw [← hv] at hget hvb hdv
        rw [hdv] at hst
        obtain ⟨bA, oA, rfl, hb1, e1⟩ := (Sl.of_own Ho2.out).int hget
        replace e1 := hgr.has e1
        have hbase := hgr.size
        have Hst := Lib.hid hst
        have hq : IntKind.i64.wrap (v - x.amount) = v - x.amount := IntWalk.i64_in _ (by omega)
        have t1 : (k : Int) < (m : Int) := by omega
        have t0 : (0 : Int) ≤ (k : Int) := by omega
        clear hget hv hst hdv hkl hx r0 r1 r3
        have hfar : ∀ j, (Value.slice (some ⟨g1, 0, none⟩) k c3).ownBlock = some j → j ≠ bA ∧ j ≠ bO := by
          intro j hj
          have e1 := own_base_le Hown.out hj
          omega
        have hnew : ∀ o : Obj, (wr.alloc o).heap[wr.heap.size]? = some o := fun o => heap_alloc_new wr o
        go_wp2_with fail
        go_region_held3 (fun w' => w'.cell? ⟨bA, oA + k, none⟩ = some (.int .i64 v) ∧ w'.cell? ⟨bO, oO + k * 4 + 2, none⟩ = some (.int .i64 x.amount))
          (first
            | go_keep
            | (go_split_ands
               refine ⟨?_, ?_⟩
               · (rw [hgrow.cell_far _ (by simp; omega) (fun e => (hfar _ e.symm).1 rfl)]; assumption)
               · (rw [hgrow.cell_far _ (by simp; omega) (fun e => (hfar _ e.symm).2 rfl)]; assumption)))
          ((refine step_append_lies _ (by rfl) _ _ _ (by rfl) w0.heap.size 2 i0 _ 1 8 Try.underlying33 hi0 hz0 hz1 hz2 rfl (by omega) _ k _ (by rfl) ((Hown.out.alloc _).drew) ⟨wr.heap.size, 0, none⟩ 1 1 [.int .i64 (v - x.amount)] (by rfl) (by rfl) (World.news_of_block (cs := #[.int .i64 (v - x.amount)]) (t := 2) (fr := (0, 0)) (hnew _)) (by simp [Value.oneCell']) (by omega) (by unfold maxLen; omega) (by omega) (by simp; omega) (wr.heap.size + 1) (by simp) ?_; intro gg cap w2 hown1 hgrow hat hlt2))
        clear hq hfar
        have Ho3 := Lib.hid (own_cells_eq hown1 (ints_snoc _ (v - x.amount)).symm)
        clear hown1
        go_wp2_with fail
        go_roundw
        case rel =>
          refine ⟨k + 1, by omega, by go_num, ⟨_, _, rfl, ?_⟩, ?_⟩
          · rw [Hst.out]; exact Ho3.out
          · exact ((hgr.alloc _).drew).grown hgrow (fun j hj => own_base_le Hown.out hj)
        case measure => simp [intOf]; omega
      · obtain rfl : k = m := by omega
        go_wp2_with fail
        go_ret2
        refine ⟨_, _, _, by rw [Hc.out]; rfl, hmm, ?_, hg0.trans hgr⟩
        rw [dvRes, if_pos Hc.out, Hl4.out]
        exact own_base Hown.out hg0.size
  · have Hc := Lib.hid hc
    have tb : (rdCode n os l != 0) = true := by simp [hc]
    clear hc
    go_wp2_with fail
    go_ret2
    refine ⟨none, 0, 0, rfl, by omega, ?_, hg0⟩
    rw [dvRes, if_neg Hc.out]
    exact World.ownsRow_nil _ _ _ _
set_option maxHeartbeats 3200000 in
set_option maxRecDepth 100000 in
theorem ShipperBalance_any {A1 A2 A4 A3 : Option Addr} {n1 c1 n2 c2 n4 c4 n3 c3 : Nat} (n : GNet) (os : List GOrd) (l : List GRd) (w : World) (hA : NetAt w A1 n1 c1 A2 n2 c2 n) (hO : SlAt w 4 A4 n4 c4 (os.flatMap GOrd.cells)) (hL : SlAt w 2 A3 n3 c3 (l.flatMap GRd.cells)) :
    Calls Try.prog 71 #[.agg #[.slice A1 n1 c1, .slice A2 n2 c2], .slice A4 n4 c4, .slice A3 n3 c3] w fun e w' => ∃ A m c, e = .returned (.tuple #[.slice A m c, .int .i64 (rdCode n os l)]) ∧ m ≤ 1048576 ∧ w'.ownsRow w.heap.size 2 1 (.slice A m c) m (ints (sbRes n os l)) ∧ Gr w w' := by
  obtain ⟨i0, hi0, hz0, hz1, hz2⟩ := info_parts infoInt64
  have hm4 := hO.small
  have hm3 := hL.small
  have hl4 := hO.sl.len GOrd.cells_len (by omega)
  have hl3 := hL.sl.len GRd.cells_len (by omega)
  have HA := Lib.hid hA
  have HO := Lib.hid hO
  have HL := Lib.hid hL
  have Hl4 := Lib.hid hl4
  have Hl3 := Lib.hid hl3
  clear hA hO hL hl4 hl3
  go_enter Try.func71, Try.ntmps71
  go_wp2_with fail
  refine (checkReadings_any n os l _ (HA.out.gr ((Gr.refl _).alloc _)) (HO.out.gr ((Gr.refl _).alloc _)) (HL.out.gr ((Gr.refl _).alloc _))).mono ?_
  rintro e w0 ⟨rfl, hg1⟩
  have hg0 : Gr w w0 := ((Gr.refl _).alloc _).trans hg1
  clear hg1
  by_cases hc : rdCode n os l = 0
  · have Hc := Lib.hid hc
    have tb : (rdCode n os l != 0) = false := by simp [hc]
    have Hok : Hid (ordsOk n1 os = true) := Lib.hid (by rw [← HA.out.l1]; exact (ordCode_zero (rdCode_zero hc).1).2)
    have Hrk : Hid (rdsOk n1 l = true) := Lib.hid (by rw [← HA.out.l1]; exact (rdCode_zero hc).2)
    clear hc
    have Hal := Lib.hid (al_len Hok.out l)
    have hs0 := hg0.size
    go_wp2_with (at_make; refine wpList_make_full _ rfl _ _ _ rfl w.heap.size 2 i0 _ 1 Try.underlying33 hi0 hz0 hz1 .i64 .i64 _ _ 16 rfl rfl rfl rfl (by rw [hz2]; omega) (by unfold maxLen; omega) hs0 ?_; intro w1 hown hgm)
    have hgx := Gr.of_grown hgm
    have ho1 : w1.ownsRow w.heap.size 2 1 (.slice (some ⟨w0.heap.size, 0, none⟩) 16 16) 16 (ints (sbTo os (al os l) 0)) := own_cells_eq hown (made_ints 16)
    obtain ⟨S, hS⟩ : ∃ S, S = w0.heap.size := ⟨_, rfl⟩
    rw [← hS] at ho1 ⊢
    have hSl : S < w1.heap.size := own_block_lt ho1 rfl
    have hSw : w.heap.size ≤ S := by omega
    have hgw1 := hg0.trans hgx
    have Ho1 := Lib.hid ho1
    clear hown ho1 hgm hS
    refine (allocated_any n1 n1 os l _ (HO.out.gr hgw1) (HL.out.gr hgw1) Hok.out Hrk.out).mono ?_
    rintro e w2 ⟨g, rfl, ho, hg2⟩
    have hgb := own_base_le ho (k := g) rfl
    have Hg := Lib.hid ho
    have Ho2 := Lib.hid (own_gr Ho1.out hg2)
    have hgw2 := hgw1.trans hg2
    have hgS : g ≠ S := by omega
    clear ho Ho1
    go_wp2_with fail
    go_loopw [24] (fun i wr => ∃ k : Nat, k ≤ n4 ∧ i = .int .i64 k ∧ wr.ownsRow w.heap.size 2 1 (.slice (some ⟨S, 0, none⟩) 16 16) 16 (ints (sbTo os (al os l) k)) ∧ wr.ownsRow w1.heap.size 2 1 (.slice (some ⟨g, 0, none⟩) n4 n4) n4 (ints (al os l)) ∧ Gr w wr) (fun i _ => n4 - (intOf i).toNat)
    case atStart => exact ⟨0, Nat.zero_le _, rfl, Ho2.out, Hg.out, hgw2⟩
    case round =>
      obtain ⟨k, hk, rfl, hown, hal, hgr⟩ := hrel
      have Hown := Lib.hid hown
      have Hg2 := Lib.hid hal
      clear hown hal Ho2 Hg hgw2
      by_cases hlt : k < n4
      · obtain ⟨x, hx⟩ : ∃ x, os[k]? = some x := ⟨_, List.getElem?_eq_getElem (by have := Hl4.out; omega)⟩
        obtain ⟨b, o, rfl, hb, r0, r1, r2, r3⟩ := (HO.out.sl.gr hgr).ord hx
        have hxs := (ordOk_all ((ordsOk_all Hok.out).2 k x hx)).1
        have hnx := sbTo_next (g := al os l) hx
        have hkl : k < (al os l).length := by have := Hal.out; have := Hl4.out; omega
        have hget := get_of_lt hkl
        have hvb := al_bnd Hok.out Hrk.out k
        have hk40 := (ordsOk_all Hok.out).1
        have hkl4 := Hl4.out
        have hsb := (sbTo_bnd (os := os) (al_bnd Hok.out Hrk.out) k).getD (by omega) x.shipper.toNat
        have hgz := get_of_lt (l := sbTo os (al os l) k) (k := x.shipper.toNat) (by rw [sbTo_len]; omega)
        obtain ⟨v, hv⟩ : ∃ v, v = (al os l).getD k 0 := ⟨_, rfl⟩
        obtain ⟨z, hz⟩ : ∃ z, z = (sbTo os (al os l) k).getD x.shipper.toNat 0 := ⟨_, rfl⟩
        rw [← hv] at hget hvb hnx
        rw [← hz] at hsb hgz hnx
        have Hnx := Lib.hid hnx
        obtain ⟨d0, d1⟩ := own_int Hown.out hgz
        obtain ⟨f0, _⟩ := own_int Hg2.out hget
        obtain ⟨R1, R2⟩ := own_set_int Hown.out x.shipper.toNat (z + v)
        have hga := Hg2.out.kept R2 (Or.inr fun e => hgS (Option.some.inj e))
        have hg4 := hgr.grown R2 (fun _ e => by injection e with e; omega)
        have HR1 := Lib.hid R1
        have Hga := Lib.hid hga
        have Hg4 := Lib.hid hg4
        have hwr : IntKind.i64.wrap (z + v) = z + v := IntWalk.i64_in _ (by omega)
        have s1 : 0 ≤ x.shipper := hxs.1
        have s2 : x.shipper < 16 := by omega
        have t1 : (k : Int) < (n4 : Int) := by omega
        have t0 : (0 : Int) ≤ (k : Int) := by omega
        clear hx hget hv hz hgz hnx R1 R2 hga hg4 hkl r1 r2 r3
        go_wp2_with fail
        go_roundw
        case rel => exact ⟨k + 1, by omega, by go_num, by rw [Hnx.out]; exact HR1.out, Hga.out, Hg4.out⟩
        case measure => simp [intOf]; omega
      · obtain rfl : k = n4 := by omega
        go_wp2_with fail
        go_ret2
        refine ⟨_, _, _, by rw [Hc.out]; rfl, by omega, ?_, hgr⟩
        rw [sbRes, if_pos Hc.out, Hl4.out]
        exact Hown.out
  · have Hc := Lib.hid hc
    have tb : (rdCode n os l != 0) = true := by simp [hc]
    clear hc
    go_wp2_with fail
    go_ret2
    refine ⟨none, 0, 0, rfl, by omega, ?_, hg0⟩
    rw [sbRes, if_neg Hc.out]
    exact World.ownsRow_nil _ _ _ _
set_option maxHeartbeats 3200000 in
set_option maxRecDepth 100000 in
theorem spShipperBalance_any {A1 A2 A4 A3 : Option Addr} {n1 c1 n2 c2 n4 c4 n3 c3 : Nat} (n : GNet) (os : List GOrd) (l : List GRd) (w : World) (hA : NetAt w A1 n1 c1 A2 n2 c2 n) (hO : SlAt w 4 A4 n4 c4 (os.flatMap GOrd.cells)) (hL : SlAt w 2 A3 n3 c3 (l.flatMap GRd.cells)) :
    Calls Try.prog 72 #[.agg #[.slice A1 n1 c1, .slice A2 n2 c2], .slice A4 n4 c4, .slice A3 n3 c3] w fun e w' => ∃ A m c, e = .returned (.tuple #[.slice A m c, .int .i64 (rdCode n os l)]) ∧ m ≤ 1048576 ∧ w'.ownsRow w.heap.size 2 1 (.slice A m c) m (ints (sbRes n os l)) ∧ Gr w w' := by
  obtain ⟨i0, hi0, hz0, hz1, hz2⟩ := info_parts infoInt64
  have hm4 := hO.small
  have hm3 := hL.small
  have hl4 := hO.sl.len GOrd.cells_len (by omega)
  have hl3 := hL.sl.len GRd.cells_len (by omega)
  have HA := Lib.hid hA
  have HO := Lib.hid hO
  have HL := Lib.hid hL
  have Hl4 := Lib.hid hl4
  have Hl3 := Lib.hid hl3
  clear hA hO hL hl4 hl3
  go_enter Try.func72, Try.ntmps72
  go_wp2_with fail
  refine (spAllocate_any n os l _ (HA.out.gr ((Gr.refl _).alloc _)) (HO.out.gr ((Gr.refl _).alloc _)) (HL.out.gr ((Gr.refl _).alloc _))).mono ?_
  rintro e w0 ⟨A, m, c, rfl, hmm, ho, hg1⟩
  have hg0 : Gr w w0 := ((Gr.refl _).alloc _).trans hg1
  have Ho := Lib.hid ho
  clear hg1 ho
  by_cases hc : rdCode n os l = 0
  · have Hc := Lib.hid hc
    have tb : (rdCode n os l != 0) = false := by simp [hc]
    have Hok : Hid (ordsOk n1 os = true) := Lib.hid (by rw [← HA.out.l1]; exact (ordCode_zero (rdCode_zero hc).1).2)
    have Hrk : Hid (rdsOk n1 l = true) := Lib.hid (by rw [← HA.out.l1]; exact (rdCode_zero hc).2)
    clear hc
    have Hal := Lib.hid (al_len Hok.out l)
    have hml : m = n4 := by
      have := own_ilen Ho.out
      rw [alRes, if_pos Hc.out, Hal.out, Hl4.out] at this
      exact this.symm
    subst hml
    have Ho2 : Hid (w0.ownsRow (w.alloc (.cells #[.slice A1 n1 c1, .slice A2 n2 c2] 27)).heap.size 2 1 (.slice A m c) m (ints (al os l))) := Lib.hid (by have := Ho.out; rw [alRes, if_pos Hc.out] at this; exact this)
    have hs0 := hg0.size
    clear Ho
    go_wp2_with (at_make; refine wpList_make_full _ rfl _ _ _ rfl w.heap.size 2 i0 _ 1 Try.underlying33 hi0 hz0 hz1 .i64 .i64 _ _ 16 rfl rfl rfl rfl (by rw [hz2]; omega) (by unfold maxLen; omega) hs0 ?_; intro w1 hown hgm)
    have hgx := Gr.of_grown hgm
    have ho1 : w1.ownsRow w.heap.size 2 1 (.slice (some ⟨w0.heap.size, 0, none⟩) 16 16) 16 (ints (sbTo os (al os l) 0)) := own_cells_eq hown (made_ints 16)
    have Ho3 := Lib.hid (own_gr Ho2.out hgx)
    have hbl : ∀ b o, A = some ⟨b, o, none⟩ → b < w0.heap.size := fun b o e => own_block_lt Ho2.out (own_blk_of Ho2.out e)
    obtain ⟨S, hS⟩ : ∃ S, S = w0.heap.size := ⟨_, rfl⟩
    rw [← hS] at ho1 hbl ⊢
    have hSw : w.heap.size ≤ S := by omega
    have hgw1 := hg0.trans hgx
    have Ho1 := Lib.hid ho1
    clear hown ho1 hgm hS Ho2
    go_loopw [11] (fun i wr => ∃ k : Nat, k ≤ m ∧ i = .int .i64 k ∧ wr.ownsRow w.heap.size 2 1 (.slice (some ⟨S, 0, none⟩) 16 16) 16 (ints (sbTo os (al os l) k)) ∧ wr.ownsRow (w.alloc (.cells #[.slice A1 n1 c1, .slice A2 n2 c2] 27)).heap.size 2 1 (.slice A m c) m (ints (al os l)) ∧ Gr w wr) (fun i _ => m - (intOf i).toNat)
    case atStart => exact ⟨0, Nat.zero_le _, rfl, Ho1.out, Ho3.out, hgw1⟩
    case round =>
      obtain ⟨k, hk, rfl, hown, hal, hgr⟩ := hrel
      have Hown := Lib.hid hown
      have Hg2 := Lib.hid hal
      clear hown hal Ho1 Ho3 hgw1
      by_cases hlt : k < m
      · obtain ⟨x, hx⟩ : ∃ x, os[k]? = some x := ⟨_, List.getElem?_eq_getElem (by have := Hl4.out; omega)⟩
        obtain ⟨b, o, rfl, hb, r0, r1, r2, r3⟩ := (HO.out.sl.gr hgr).ord hx
        have hxs := (ordOk_all ((ordsOk_all Hok.out).2 k x hx)).1
        have hnx := sbTo_next (g := al os l) hx
        have hkl : k < (al os l).length := by have := Hal.out; have := Hl4.out; omega
        have hget := get_of_lt hkl
        have hvb := al_bnd Hok.out Hrk.out k
        have hk40 := (ordsOk_all Hok.out).1
        have hkl4 := Hl4.out
        have hsb := (sbTo_bnd (os := os) (al_bnd Hok.out Hrk.out) k).getD (by omega) x.shipper.toNat
        have hgz := get_of_lt (l := sbTo os (al os l) k) (k := x.shipper.toNat) (by rw [sbTo_len]; omega)
        obtain ⟨v, hv⟩ : ∃ v, v = (al os l).getD k 0 := ⟨_, rfl⟩
        obtain ⟨z, hz⟩ : ∃ z, z = (sbTo os (al os l) k).getD x.shipper.toNat 0 := ⟨_, rfl⟩
        rw [← hv] at hget hvb hnx
        rw [← hz] at hsb hgz hnx
        have Hnx := Lib.hid hnx
        obtain ⟨d0, d1⟩ := own_int Hown.out hgz
        obtain ⟨bA, oA, rfl, hbA, f0⟩ := (Sl.of_own Hg2.out).int hget
        have hbS := hbl _ _ rfl
        have hbS' : bA ≠ S := by omega
        obtain ⟨R1, R2⟩ := own_set_int Hown.out x.shipper.toNat (z + v)
        have hga := Hg2.out.kept R2 (Or.inr (by rw [own_blk_of Hg2.out rfl]; exact fun e => hbS' (Option.some.inj e)))
        have hg4 := hgr.grown R2 (fun _ e => by injection e with e; omega)
        have HR1 := Lib.hid R1
        have Hga := Lib.hid hga
        have Hg4 := Lib.hid hg4
        have hwr : IntKind.i64.wrap (z + v) = z + v := IntWalk.i64_in _ (by omega)
        have s1 : 0 ≤ x.shipper := hxs.1
        have s2 : x.shipper < 16 := by omega
        have t1 : (k : Int) < (m : Int) := by omega
        have t0 : (0 : Int) ≤ (k : Int) := by omega
        clear hx hget hv hz hgz hnx R1 R2 hga hg4 hkl r1 r2 r3 hbl
        go_wp2_with fail
        go_region
        go_wp2_with fail
        go_roundw
        case rel => exact ⟨k + 1, by omega, by go_num, by rw [Hnx.out]; exact HR1.out.drew, Hga.out.drew, Hg4.out.drew⟩
        case measure => simp [intOf]; omega
      · obtain rfl : k = m := by omega
        go_wp2_with fail
        go_ret2
        refine ⟨_, _, _, by rw [Hc.out]; rfl, by omega, ?_, hgr⟩
        rw [sbRes, if_pos Hc.out, Hl4.out]
        exact Hown.out
  · have Hc := Lib.hid hc
    have tb : (rdCode n os l != 0) = true := by simp [hc]
    clear hc
    go_wp2_with fail
    go_ret2
    refine ⟨none, 0, 0, rfl, by omega, ?_, hg0⟩
    rw [sbRes, if_neg Hc.out]
    exact World.ownsRow_nil _ _ _ _
end Go.Proofs.Ytejfpajbkgfiaaa
