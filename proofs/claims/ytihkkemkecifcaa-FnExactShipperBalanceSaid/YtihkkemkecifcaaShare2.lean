/-
  Shares: the program.
-/
import Derived.Test.YtihkkemkecifcaaShare1
import Derived.Test.YtihkkemkecifcaaSums
import Derived.BigRegion
import Derived.Deep.OwnRows
import Derived.Deep.CutRange
namespace Go.Proofs.Ytihkkemkecifcaa
open Go.ChangeShapes Go.WideShapes Go.ChangeAt Go.RowKit

theorem absOf_any (a : Int) (w : World) (h : -1000000000000000 ≤ a ∧ a ≤ 1000000000000000) : Calls Try.prog 67 #[.int .i64 a] w fun e w' => e = .returned (.int .i64 (sgn a * a)) ∧ w = w' := by
  by_cases h0 : a < 0
  · have e : -a = sgn a * a := by rw [sgn, if_pos h0]; omega
    have E := Lib.hid e
    clear e
    go_enter Try.func67, Try.ntmps67
    go_wp2_with fail
    go_ret
    exact ⟨ret_int E.out, rfl⟩
  · have e : a = sgn a * a := by rw [sgn, if_neg h0]; omega
    have E := Lib.hid e
    clear e
    go_enter Try.func67, Try.ntmps67
    go_wp2_with fail
    go_ret
    exact ⟨ret_int E.out, rfl⟩
theorem fmTo_max (r : List Int) (k : Nat) : max (r.getD (fmTo r k) 0) (r.getD (k + 1) 0) = r.getD (fmTo r (k + 1)) 0 := by
  rw [fmTo_next]
  split <;> omega
theorem max_if (a x : Int) : (if a < x then x else a) = max a x := by split <;> omega
theorem maxInt_any {A : Option Addr} {m c : Nat} (r : List Int) (w : World) (hL : SlAt w 1 A m c (ints r)) (hm : 0 < m) :
    Calls Try.prog 78 #[.slice A m c] w fun e w' => e = .returned (.int .i64 (r.getD (fm r) 0)) ∧ w = w' := by
  have hlen := hL.sl.ilen
  have Hlen := Lib.hid hlen
  have hm1 := hL.small
  obtain ⟨x0, hx0⟩ : ∃ x, r[0]? = some x := ⟨_, List.getElem?_eq_getElem (by omega)⟩
  obtain ⟨b, o, rfl, hb, e0⟩ := hL.sl.int hx0
  rw [Nat.add_zero] at e0
  have h0 : r.getD (fmTo r 0) 0 = x0 := by rw [fmTo, List.getD_eq_getElem?_getD, hx0]; rfl
  have H0 := Lib.hid h0
  have HL := Lib.hid hL
  have t1 : (0 : Int) < (m : Int) := by omega
  have t2 : decide ((m : Int) < 1) = false := by simp; omega
  clear hL hlen hx0 h0
  go_enter Try.func78, Try.ntmps78
  go_wp2_with fail
  go_loop [3, 4] (fun s i => ∃ k : Nat, 1 ≤ k ∧ k ≤ m ∧ i = .int .i64 k ∧ s = .int .i64 (r.getD (fmTo r (k - 1)) 0)) (fun _ i => m - (intOf i).toNat)
  case atStart => exact ⟨1, Nat.le_refl _, hm, rfl, by rw [H0.out]⟩
  case round =>
    obtain ⟨k, hk1, hk, rfl, rfl⟩ := hrel
    by_cases hlt : k < m
    · obtain ⟨x, hx⟩ : ∃ x, r[k]? = some x := ⟨_, List.getElem?_eq_getElem (by have := Hlen.out; omega)⟩
      obtain ⟨b', o', eb, hb', e1⟩ := HL.out.sl.int hx
      injection eb with eb; injection eb with eb1 eb2; subst eb1; subst eb2
      have hst : max (r.getD (fmTo r (k - 1)) 0) x = r.getD (fmTo r k) 0 := by
        obtain ⟨k', rfl⟩ : ∃ k', k = k' + 1 := ⟨k - 1, by omega⟩
        have := fmTo_max r k'
        rw [Nat.add_sub_cancel, ← this]
        congr 1
        rw [List.getD_eq_getElem?_getD, hx]; rfl
      have Hst := Lib.hid hst
      have t3 : (k : Int) < (m : Int) := by omega
      have t4 : (0 : Int) ≤ (k : Int) := by omega
      clear hx hst e0
      go_wp2_with fail
      go_round
      case rel => exact ⟨k + 1, by omega, by omega, by go_num, by rw [Nat.add_sub_cancel, ← Hst.out, ← max_if]; rfl⟩
      case measure => simp [intOf]; omega
    · obtain rfl : k = m := by omega
      go_wp2_with fail
      go_ret
      exact ⟨ret_int (by rw [fm, Hlen.out]), rfl⟩
theorem indexInt_any {A : Option Addr} {m c : Nat} (r : List Int) (v : Int) (b : Nat) (w : World) (hL : SlAt w 1 A m c (ints r)) (hb : r[b]? = some v) (hno : ∀ i, i < b → r.getD i 0 ≠ v) :
    Calls Try.prog 77 #[.slice A m c, .int .i64 v] w fun e w' => e = .returned (.int .i64 b) ∧ w = w' := by
  have hlen := hL.sl.ilen
  have hm1 := hL.small
  have hbm : b < m := by have := (List.getElem?_eq_some_iff.1 hb).1; omega
  have Hlen := Lib.hid hlen
  have HL := Lib.hid hL
  have Hb := Lib.hid hb
  have Hno := Lib.hid hno
  clear hL hlen hb hno
  go_enter Try.func77, Try.ntmps77
  go_wp2_with fail
  go_loop [8] (fun i => ∃ k : Nat, k ≤ b ∧ i = .int .i64 k) (fun i => m - (intOf i).toNat)
  case atStart => exact ⟨0, Nat.zero_le _, rfl⟩
  case round =>
    obtain ⟨k, hk, rfl⟩ := hrel
    obtain ⟨x, hx⟩ : ∃ x, r[k]? = some x := ⟨_, List.getElem?_eq_getElem (by have := Hlen.out; omega)⟩
    obtain ⟨b', o', rfl, hb', e1⟩ := HL.out.sl.int hx
    have t3 : (k : Int) < (m : Int) := by omega
    have t4 : (0 : Int) ≤ (k : Int) := by omega
    by_cases hlt : k < b
    · have hne : v ≠ x := by
        have := Hno.out k hlt
        rw [List.getD_eq_getElem?_getD, hx] at this
        exact fun e => this e.symm
      have hne' : (v == x) = false := by simp [hne]
      clear hx
      go_wp2_with fail
      go_round
      case rel => exact ⟨k + 1, by omega, by go_num⟩
      case measure => simp [intOf]; omega
    · obtain rfl : k = b := by omega
      obtain rfl : x = v := by have := Hb.out; rw [hx] at this; injection this
      clear hx
      go_wp2_with fail
      go_ret
      exact ⟨rfl, rfl⟩
theorem made_own1 (w : World) (n : Nat) (hn : n ≤ 1048576) : (w.alloc (.cells (madeCells #[.int .i64 0] n) 2)).ownsRow w.heap.size 2 1 (.slice (some ⟨w.heap.size, 0, none⟩) n n) n (ints (List.replicate n 0)) := by
  have h1 : (madeCells #[.int .i64 0] n).size = n * 1 := by rw [← Array.length_toList, toList_madeCells_one]; simp
  have h2 := World.ownsRow_lit w (e := 2) (size := 1) (madeCells #[.int .i64 0] n) n (Nat.le_refl _) (by unfold maxLen; omega) h1
  exact own_cells_eq h2 (by rw [toList_madeCells_one]; simp [ints])
theorem two_made (w : World) (n : Nat) (hn : n ≤ 1048576) : ((w.alloc (.cells (madeCells #[.int .i64 0] n) 2)).alloc (.cells (madeCells #[.int .i64 0] n) 2)).drew.ownsRow w.heap.size 2 1 (.slice (some ⟨w.heap.size, 0, none⟩) n n) n (ints (List.replicate n 0)) ∧
    ((w.alloc (.cells (madeCells #[.int .i64 0] n) 2)).alloc (.cells (madeCells #[.int .i64 0] n) 2)).drew.ownsRow w.heap.size 2 1 (.slice (some ⟨w.heap.size + 1, 0, none⟩) n n) n (ints (List.replicate n 0)) := by
  have h1 := made_own1 w n hn
  have h2 := made_own1 (w.alloc (.cells (madeCells #[.int .i64 0] n) 2)) n hn
  rw [World.size_alloc] at h2
  exact ⟨(h1.alloc _).drew, own_base h2.drew (by omega)⟩
theorem fillTo_nil (n : Nat) (l : List Int) : fillTo (0 : Int) l n 0 = List.replicate n 0 := by simp [fillTo]
set_option maxHeartbeats 4000000 in
set_option maxRecDepth 100000 in
theorem sharesOf_any {A : Option Addr} {m c : Nat} (t : Int) (ws : List Int) (w : World) (hL : SlAt w 1 A m c (ints ws)) (hm0 : 0 < m) (hm : m ≤ 40) (ht : 0 ≤ t ∧ t ≤ 30000) (hw : ∀ z ∈ ws, 0 ≤ z ∧ z ≤ 30000) (hS : 0 < ws.sum) :
    Calls Try.prog 68 #[.int .i64 t, .slice A m c] w fun e w' => ∃ g, e = .returned (.slice (some ⟨g, 0, none⟩) m m) ∧ w'.ownsRow w.heap.size 2 1 (.slice (some ⟨g, 0, none⟩) m m) m (ints (shares t ws)) ∧ Gr w w' := by
  have hlen := hL.sl.ilen
  have hm1 := hL.small
  have HL := Lib.hid hL
  have Hw := Lib.hid hw
  have HS := Lib.hid hS
  have Hlen := Lib.hid hlen
  obtain ⟨S, hSe⟩ : ∃ S, S = ws.sum := ⟨_, rfl⟩
  have hSb : 0 < S ∧ S ≤ 31457280000 := by
    have h1 := sum_take_bnd (M := 30000) (by decide) (fun z hz => by have := hw z hz; omega) ws.length
    rw [List.take_length] at h1
    omega
  have HSe := Lib.hid hSe
  clear hL hw hS hlen hSe
  go_enter Try.func68, Try.ntmps68
  go_wp2_with fail
  refine (sumOf_any ws _ HL.out (fun z hz => by have := Hw.out z hz; omega)).mono ?_
  rintro e _ ⟨rfl, rfl⟩
  rw [← HSe.out]
  have hmk := run_make_row' (P := Try.prog) 31 2 (.int .i64 0) 8 Try.underlying31 infoInt64 rfl .i64 .i64 m (by omega) (by omega)
  go_wp2_with fail
  go_cut [6, 7] from 12 (fun s6 s7 wx => ∃ g h, s6 = .slice (some ⟨g, 0, none⟩) m m ∧ s7 = .slice (some ⟨h, 0, none⟩) m m ∧ g ≠ h ∧ wx.ownsRow w.heap.size 2 1 (.slice (some ⟨g, 0, none⟩) m m) m (ints (List.replicate m 0)) ∧ wx.ownsRow w.heap.size 2 1 (.slice (some ⟨h, 0, none⟩) m m) m (ints (List.replicate m 0)) ∧ Gr w wx)
  case first =>
    go_region
    all_goals
      go_wp2_with fail
      go_meet
      case rel =>
        obtain ⟨K1, K2⟩ := two_made w m hm1
        first
          | exact ⟨_, _, rfl, rfl, by omega, K1, K2, (((Gr.refl _).alloc _).alloc _).drew⟩
          | exact ⟨_, _, rfl, rfl, by omega, K2, K1, (((Gr.refl _).alloc _).alloc _).drew⟩
  case rest =>
    obtain ⟨g, h, rfl, rfl, hgh, hO, hR, hgc⟩ := hcut
    have hgb := own_base_le hO (k := g) rfl
    have hhb := own_base_le hR (k := h) rfl
    have hl1 : (shOut t S ws).length = m := by simp [shOut]; exact Hlen.out
    have hl2 : (shRest t S ws).length = m := by simp [shRest]; exact Hlen.out
    have Hl1 := Lib.hid hl1
    have Hl2 := Lib.hid hl2
    rw [← fillTo_nil m (shOut t S ws)] at hO
    rw [← fillTo_nil m (shRest t S ws)] at hR
    have HO := Lib.hid hO
    have HR := Lib.hid hR
    clear hO hR hl1 hl2 hmk
    go_wp2_with fail
    go_loopw [8, 23] (fun lf i wr => ∃ k : Nat, k ≤ m ∧ i = .int .i64 k ∧ lf = .int .i64 (t - (shOut t S (ws.take k)).sum) ∧ wr.ownsRow w.heap.size 2 1 (.slice (some ⟨g, 0, none⟩) m m) m (ints (fillTo 0 (shOut t S ws) m k)) ∧ wr.ownsRow w.heap.size 2 1 (.slice (some ⟨h, 0, none⟩) m m) m (ints (fillTo 0 (shRest t S ws) m k)) ∧ Gr w wr) (fun _ i _ => m - (intOf i).toNat)
    case atStart => exact ⟨0, Nat.zero_le _, rfl, by simp [shOut], HO.out, HR.out, hgc⟩
    case round =>
      obtain ⟨k, hk, rfl, rfl, hown, hres, hgr⟩ := hrel
      have Hown := Lib.hid hown
      have Hres := Lib.hid hres
      clear hown hres HO HR hgc
      by_cases hlt : k < m
      · obtain ⟨x, hx⟩ : ∃ x, ws[k]? = some x := ⟨_, List.getElem?_eq_getElem (by have := Hlen.out; omega)⟩
        obtain ⟨b, o, rfl, hb, e0⟩ := (HL.out.sl.gr hgr).int hx
        obtain ⟨hw1, hw2, hw3, hw4, hw5, hb1, hb2⟩ := share_div ht (Hw.out x (List.mem_of_getElem? hx)) hSb
        have hob := out_part_bnd ht hSb Hw.out k
        have hso := map_take_snoc (g := fun w => t * w / S) hx
        have Hso : Hid (shOut t S (ws.take (k + 1)) = shOut t S (ws.take k) ++ [t * x / S]) := Lib.hid hso
        have hxo : (shOut t S ws)[k]? = some (t * x / S) := by simp [shOut, hx]
        have hxr : (shRest t S ws)[k]? = some (t * x % S) := by simp [shRest, hx]
        generalize t * x / S = q at *
        generalize t * x % S = p at *
        obtain ⟨Z, hZ⟩ : ∃ Z, Z = (shOut t S (ws.take k)).sum := ⟨_, rfl⟩
        rw [← hZ] at hob ⊢
        have HZ := Lib.hid hZ.symm
        obtain ⟨d0, d1⟩ := own_int Hown.out (fillTo_get 0 _ Hl1.out hlt)
        obtain ⟨f0, f1⟩ := own_int Hres.out (fillTo_get 0 _ Hl2.out hlt)
        obtain ⟨R1, R2⟩ := own_set_int Hown.out k q
        have he1 := Hres.out.kept R2 (Or.inr fun e => hgh (Option.some.inj e).symm)
        obtain ⟨R3, R4⟩ := own_set_int he1 k p
        have R5 := R1.kept R4 (Or.inr fun e => hgh (Option.some.inj e))
        rw [fillTo_set 0 _ Hl1.out hxo] at R5
        rw [fillTo_set 0 _ Hl2.out hxr] at R3
        have hg2 := ((hgr.grown R2 (fun _ e => by injection e with e; omega)).grown R4 (fun _ e => by injection e with e; omega)).drew
        have HR3 := Lib.hid R3
        have HR5 := Lib.hid R5
        have Hg2 := Lib.hid hg2
        have t1 : (k : Int) < (m : Int) := by omega
        have t0 : (0 : Int) ≤ (k : Int) := by omega
        have hS0 : ¬ S = 0 := by omega
        clear hx hso hxo hxr hZ R1 R2 he1 R3 R4 R5 hg2
        go_wp2_with fail
        go_region
        go_wp2_with fail
        go_roundw
        case rel =>
          refine ⟨k + 1, by omega, by go_num, ?_, HR5.out.drew, HR3.out.drew, Hg2.out⟩
          rw [Hso.out, List.sum_append, HZ.out]; simp; omega
        case measure => simp [intOf]; omega
      · obtain rfl : k = m := by omega
        have ht' : ws.take k = ws := List.take_of_length_le (by have := Hlen.out; omega)
        have hf1 : fillTo 0 (shOut t S ws) k k = shOut t S ws := by have := fillTo_full 0 (shOut t S ws); rwa [Hl1.out] at this
        have hf2 : fillTo 0 (shRest t S ws) k k = shRest t S ws := by have := fillTo_full 0 (shRest t S ws); rwa [Hl2.out] at this
        rw [ht']
        rw [hf1] at Hown
        rw [hf2] at Hres
        have hleft : t - (shOut t S ws).sum = shLeft t ws.sum ws := by rw [← HSe.out]; rfl
        obtain ⟨L, hL⟩ : ∃ L, L = shLeft t ws.sum ws := ⟨_, rfl⟩
        rw [hleft, ← hL]
        have hL0 : 0 ≤ L := by rw [hL]; exact shLeft_nonneg HS.out
        have hLm : L ≤ 40 := by
          have h1 := left_count (t := t) HS.out
          have h2 := List.countP_le_length (p := fun z : Int => decide (0 < z)) (l := shRest t ws.sum ws)
          have h3 : (shRest t ws.sum ws).length = k := by simp [shRest]; exact Hlen.out
          omega
        obtain ⟨s0, hs0⟩ : ∃ s0, s0 = (shOut t S ws, shRest t S ws) := ⟨_, rfl⟩
        have hl0 : s0.1.length = k ∧ s0.2.length = k := by rw [hs0]; exact ⟨Hl1.out, Hl2.out⟩
        have hb0 : ∀ i, 0 ≤ s0.1.getD i 0 ∧ s0.1.getD i 0 ≤ 900000000 := by rw [hs0]; exact shOut_bnd ht (by omega) Hw.out
        have hfin : shares t ws = (shIter L.toNat s0).1 := by rw [shares, ← hL, hs0, HSe.out]
        have Hl0 := Lib.hid hl0
        have Hb0 := Lib.hid hb0
        have Hfin := Lib.hid hfin
        have hO : wr.ownsRow w.heap.size 2 1 (.slice (some ⟨g, 0, none⟩) k k) k (ints s0.1) := by rw [hs0]; exact Hown.out
        have hR : wr.ownsRow w.heap.size 2 1 (.slice (some ⟨h, 0, none⟩) k k) k (ints s0.2) := by rw [hs0]; exact Hres.out
        have HO := Lib.hid hO
        have HR := Lib.hid hR
        clear hl0 hb0 hfin hO hR hs0 Hown Hres hL hleft ht' hf1 hf2 Hl1 Hl2
        go_wp2_with fail
        go_loopw [8] (fun lf wq => ∃ j : Nat, (j : Int) ≤ L ∧ lf = .int .i64 (L - j) ∧ wq.ownsRow w.heap.size 2 1 (.slice (some ⟨g, 0, none⟩) k k) k (ints (shIter j s0).1) ∧ wq.ownsRow w.heap.size 2 1 (.slice (some ⟨h, 0, none⟩) k k) k (ints (shIter j s0).2) ∧ Gr w wq) (fun lf _ => (intOf lf).toNat)
        case atStart => exact ⟨0, by omega, by simp, HO.out, HR.out, hgr⟩
        case round =>
          obtain ⟨j, hj, rfl, hown, hres, hgq⟩ := hrel
          have HO2 := Lib.hid hown
          have HR2 := Lib.hid hres
          clear hown hres HO HR
          have hln := shIter_len j s0
          have hbn := shIter_bnd Hb0.out j
          have hnx : shIter (j + 1) s0 = shStep (shIter j s0) := shIter_succ j s0
          obtain ⟨q, hq⟩ : ∃ q, q = shIter j s0 := ⟨_, rfl⟩
          rw [← hq] at HO2 HR2 hln hbn hnx
          have hq1 : q.1.length = k := by rw [hln.1, Hl0.out.1]
          have hq2 : q.2.length = k := by rw [hln.2, Hl0.out.2]
          have Hq := Lib.hid hq
          have Hq1 := Lib.hid hq1
          have Hq2 := Lib.hid hq2
          have Hbn := Lib.hid hbn
          have Hnx := Lib.hid hnx
          clear hq hq1 hq2 hbn hnx hln
          by_cases hlt2 : (j : Int) < L
          · have t2 : 0 < L - (j : Int) := by omega
            obtain ⟨f, hf⟩ : ∃ f, f = fm q.2 := ⟨_, rfl⟩
            have hfi : IsFm q.2 f := by rw [hf]; exact fm_is (by have := Hq2.out; omega)
            have hfl : f < k := by have := hfi.lt; have := Hq2.out; omega
            have hx2 : q.2[f]? = some (q.2.getD f 0) := get_of_lt hfi.lt
            have hx0 : q.1[f]? = some (q.1.getD f 0) := get_of_lt (by have := Hq1.out; omega)
            obtain ⟨z, hz⟩ : ∃ z, z = q.1.getD f 0 := ⟨_, rfl⟩
            have hzb := Hbn.out f
            have hstep : shStep q = (q.1.set f (z + 1), q.2.set f (-1)) := by rw [shStep, ← hf, hz]
            rw [← hz] at hx0 hzb
            have Hstep := Lib.hid hstep
            have Hf := Lib.hid hf
            have Hfi := Lib.hid hfi
            have Hx2 := Lib.hid hx2
            obtain ⟨e1, f1⟩ := own_int HO2.out hx0
            obtain ⟨e3, f3⟩ := own_int HR2.out hx2
            obtain ⟨S1, S2⟩ := own_set_int HO2.out f (z + 1)
            have hR4 := HR2.out.kept S2 (Or.inr fun e => hgh (Option.some.inj e).symm)
            obtain ⟨S3, S4⟩ := own_set_int hR4 f (-1)
            have hO4 := S1.kept S4 (Or.inr fun e => hgh (Option.some.inj e))
            have hg4 := (hgq.grown S2 (fun _ e => by injection e with e; omega)).grown S4 (fun _ e => by injection e with e; omega)
            have HO4 := Lib.hid hO4
            have HR4 := Lib.hid S3
            have Hg4 := Lib.hid hg4
            obtain ⟨e5, f5⟩ := own_int hR4 hx2
            have u1 : (f : Int) < (k : Int) := by omega
            have u0 : (0 : Int) ≤ (f : Int) := by omega
            have hwz : IntKind.i64.wrap (z + 1) = z + 1 := IntWalk.i64_in _ (by omega)
            clear S1 S2 hR4 S3 S4 hO4 hg4 hx0 hx2 hz hstep hf hfi
            go_wp2_with fail
            refine (maxInt_any q.2 _ (SlAt.of_own HR2.out hm1) hm0).mono ?_
            rintro e w5 ⟨rfl, hw5⟩
            rw [← hw5, ← Hf.out]
            clear hw5
            go_wp2_with fail
            refine (indexInt_any q.2 (q.2.getD f 0) f _ (SlAt.of_own HR2.out hm1) Hx2.out (fun i hi => Int.ne_of_lt (Hfi.out.fst i hi))).mono ?_
            rintro e w6 ⟨rfl, hw6⟩
            rw [← hw6]
            clear hw6
            go_wp2_with fail
            go_roundw
            case rel => exact ⟨j + 1, by omega, by go_num, by rw [Hnx.out, Hstep.out]; exact HO4.out, by rw [Hnx.out, Hstep.out]; exact HR4.out, Hg4.out⟩
            case measure => simp [intOf]; omega
          · have hjL : L.toNat = j := by omega
            have HjL := Lib.hid hjL
            clear hjL
            go_wp2_with fail
            go_ret
            exact ⟨_, rfl, by rw [Hfin.out, HjL.out, ← Hq.out]; exact HO2.out, hgq⟩
end Go.Proofs.Ytihkkemkecifcaa
