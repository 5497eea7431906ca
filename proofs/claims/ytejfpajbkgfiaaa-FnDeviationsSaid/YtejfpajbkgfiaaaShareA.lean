import Derived.Test.YtejfpajbkgfiaaaAllocMs
import Derived.Deep.AppendLies
import Derived.Test.YtejfpajbkgfiaaaSums
import Derived.BigRegion
import Derived.Deep.OwnRows
import Derived.Deep.CutRange
/-
  Shares: the reference.
-/
namespace Go.Proofs.Ytejfpajbkgfiaaa
open Go.ChangeShapes Go.WideShapes Go.ChangeAt Go.RowKit

theorem map_take_snoc {g : Int → Int} {ws : List Int} {k : Nat} {x : Int} (hx : ws[k]? = some x) : (ws.take (k + 1)).map g = (ws.take k).map g ++ [g x] := map_take_succ g ws hx
theorem fmTo_next {r : List Int} {k : Nat} : fmTo r (k + 1) = if r.getD (fmTo r k) 0 < r.getD (k + 1) 0 then k + 1 else fmTo r k := rfl
theorem share_div {t x S : Int} (ht : 0 ≤ t ∧ t ≤ 30000) (hx : 0 ≤ x ∧ x ≤ 30000) (hS : 0 < S ∧ S ≤ 31457280000) :
    IntKind.i64.wrap (t * x) = t * x ∧ IntKind.i64.wrap ((t * x).tdiv S) = t * x / S ∧ IntKind.i64.wrap ((t * x).tmod S) = t * x % S ∧ (t * x).tdiv S = t * x / S ∧ (t * x).tmod S = t * x % S ∧ (0 ≤ t * x / S ∧ t * x / S ≤ 900000000) ∧ (0 ≤ t * x % S ∧ t * x % S ≤ 31457280000) := by
  have h1 : 0 ≤ t * x := Int.mul_nonneg ht.1 hx.1
  have h2 : t * x ≤ 30000 * 30000 := Int.mul_le_mul ht.2 hx.2 hx.1 (by omega)
  have h3 : t * x / S ≤ t * x := Int.ediv_le_self _ h1
  have h4 := Int.ediv_nonneg h1 (Int.le_of_lt hS.1)
  have h5 := Int.emod_nonneg (t * x) (Int.ne_of_gt hS.1)
  have h6 := Int.emod_lt_of_pos (t * x) hS.1
  refine ⟨IntWalk.i64_in _ (by omega), ?_, ?_, Int.tdiv_eq_ediv_of_nonneg h1, Int.tmod_eq_emod_of_nonneg h1, ⟨h4, by omega⟩, ⟨h5, by omega⟩⟩
  · rw [Int.tdiv_eq_ediv_of_nonneg h1]; exact IntWalk.i64_in _ (by omega)
  · rw [Int.tmod_eq_emod_of_nonneg h1]; exact IntWalk.i64_in _ (by omega)
theorem out_part_bnd {t S : Int} {ws : List Int} (ht : 0 ≤ t ∧ t ≤ 30000) (hS : 0 < S ∧ S ≤ 31457280000) (hw : ∀ z ∈ ws, 0 ≤ z ∧ z ≤ 30000) (k : Nat) : 0 ≤ (shOut t S (ws.take k)).sum ∧ (shOut t S (ws.take k)).sum ≤ 900000000 * (k : Int) := by
  have key : ∀ l : List Int, (∀ z ∈ l, 0 ≤ z ∧ z ≤ 30000) → 0 ≤ (shOut t S l).sum ∧ (shOut t S l).sum ≤ 900000000 * (l.length : Int) := by
    intro l
    induction l with
    | nil => intro _; simp [shOut]
    | cons x l ih =>
      intro h
      have h1 := (share_div ht (h x (List.mem_cons_self ..)) hS).2.2.2.2.2.1
      have h2 := ih (fun z hz => h z (List.mem_cons_of_mem _ hz))
      simp only [shOut, List.map_cons, List.sum_cons, List.length_cons] at h2 ⊢
      push_cast
      omega
  have h1 := key (ws.take k) (fun z hz => hw z (List.mem_of_mem_take hz))
  have h2 : (ws.take k).length ≤ k := by simp; omega
  omega
set_option maxHeartbeats 4000000 in
set_option maxRecDepth 100000 in
theorem l01Shares_any {A : Option Addr} {m c : Nat} (t : Int) (ws : List Int) (w : World) (hL : SlAt w 1 A m c (ints ws)) (hm0 : 0 < m) (hm : m ≤ 40) (ht : 0 ≤ t ∧ t ≤ 30000) (hw : ∀ z ∈ ws, 0 ≤ z ∧ z ≤ 30000) (hS : 0 < ws.sum) :
    Calls Try.prog 160 #[.int .i64 t, .slice A m c] w fun e w' => ∃ B d, e = .returned (.slice B m d) ∧ w'.ownsRow w.heap.size 2 1 (.slice B m d) m (ints (shares t ws)) ∧ Gr w w' := by
  obtain ⟨i0, hi0, hz0, hz1, hz2⟩ := info_parts infoInt64
  have hlen := hL.sl.ilen
  have HL := Lib.hid hL
  have Hw := Lib.hid hw
  have HS := Lib.hid hS
  have Hlen := Lib.hid hlen
  obtain ⟨S, hSe⟩ : ∃ S, S = ws.sum := ⟨_, rfl⟩
  have hSb : 0 < S ∧ S ≤ 31457280000 := by
    have h1 := sum_take_bnd (M := 30000) (by decide) (fun z hz => by have := hw z hz; omega) ws.length
    rw [List.take_length] at h1
    omega
  have HSe := Lib.hid hSe
  clear hL hw hS hlen hSe
  go_enter Try.func160, Try.ntmps160
  go_wp2_with fail
  refine (l01Sum_any ws _ HL.out (fun z hz => by have := Hw.out z hz; omega)).mono ?_
  rintro e _ ⟨rfl, rfl⟩
  rw [← HSe.out]
  go_wp2_with fail
  generalize hw0 : World.alloc (World.alloc w _) _ = w0
  have hs0 : w0.heap.size = w.heap.size + 2 := by rw [← hw0]; simp
  have o0 : w0.ownsRow w.heap.size 2 1 (.slice (some ⟨w.heap.size, 0, none⟩) 0 0) 0 [] := by
    rw [← hw0]; exact (World.ownsRow_lit w (e := 2) (size := 1) #[] 0 (Nat.le_refl _) (by unfold maxLen; omega) rfl).alloc _
  have r0 : w0.ownsRow w.heap.size 2 1 (.slice (some ⟨w.heap.size + 1, 0, none⟩) 0 0) 0 [] := by
    have q := World.ownsRow_lit (w.alloc (.cells #[] 2)) (e := 2) (size := 1) #[] 0 (Nat.le_refl _) (by unfold maxLen; omega) rfl
    rw [World.size_alloc, hw0] at q
    exact own_base q (by omega)
  have hg0 : Gr w w0 := by rw [← hw0]; exact ((Gr.refl _).alloc _).alloc _
  have O0 := Lib.hid o0
  have R0 := Lib.hid r0
  clear hw0 o0 r0 hs0
  go_loopw [6, 7, 8, 9] (fun o r lf i wr => ∃ k : Nat, k ≤ m ∧ i = .int .i64 k ∧ lf = .int .i64 (t - (shOut t S (ws.take k)).sum) ∧ (∃ g h c d, o = .slice (some ⟨g, 0, none⟩) k c ∧ r = .slice (some ⟨h, 0, none⟩) k d ∧ g ≠ h ∧ wr.ownsRow w.heap.size 2 1 (.slice (some ⟨g, 0, none⟩) k c) k (ints (shOut t S (ws.take k))) ∧ wr.ownsRow w.heap.size 2 1 (.slice (some ⟨h, 0, none⟩) k d) k (ints (shRest t S (ws.take k)))) ∧ Gr w wr) (fun _ _ _ i _ => m - (intOf i).toNat)
  case atStart => exact ⟨0, Nat.zero_le _, rfl, by simp [shOut], ⟨_, _, _, _, rfl, rfl, by omega, O0.out, R0.out⟩, hg0⟩
  case round =>
    obtain ⟨k, hk, rfl, rfl, ⟨g, h, c1, d1, rfl, rfl, hgh, hown, hres⟩, hgr⟩ := hrel
    have Hown := Lib.hid hown
    have Hres := Lib.hid hres
    have hsz := hgr.size
    clear hown hres O0 R0 hg0
    by_cases hlt : k < m
    · obtain ⟨x, hx⟩ : ∃ x, ws[k]? = some x := ⟨_, List.getElem?_eq_getElem (by have := Hlen.out; omega)⟩
      obtain ⟨b, o, rfl, hb, e0⟩ := (HL.out.sl.gr hgr).int hx
      obtain ⟨hw1, hw2, hw3, hw4, hw5, hb1, hb2⟩ := share_div ht (Hw.out x (List.mem_of_getElem? hx)) hSb
      have hob := out_part_bnd ht hSb Hw.out k
      have hso := map_take_snoc (g := fun w => t * w / S) hx
      have hsr := map_take_snoc (g := fun w => t * w % S) hx
      have Hso : Hid (shOut t S (ws.take (k + 1)) = shOut t S (ws.take k) ++ [t * x / S]) := Lib.hid hso
      have Hsr : Hid (shRest t S (ws.take (k + 1)) = shRest t S (ws.take k) ++ [t * x % S]) := Lib.hid hsr
      have hhl : h < wr.heap.size := (World.ownsRow.lt Hres.out h rfl).2
      have hbw : b < w.heap.size := by
        obtain ⟨b', o', e, hb', _⟩ := HL.out.sl.int hx
        injection e with e; injection e with e; omega
      have hgb := own_base_le Hown.out (k := g) rfl
      have hhb := own_base_le Hres.out (k := h) rfl
      generalize t * x / S = q at *
      generalize t * x % S = p at *
      obtain ⟨Z, hZ⟩ : ∃ Z, Z = (shOut t S (ws.take k)).sum := ⟨_, rfl⟩
      rw [← hZ] at hob ⊢
      have HZ := Lib.hid hZ.symm
      clear hZ
      have t1 : (k : Int) < (m : Int) := by omega
      have t0 : (0 : Int) ≤ (k : Int) := by omega
      have hS0 : ¬ S = 0 := by omega
      clear hx hso hsr
      go_wp2_with (at_builtin; first
        | (refine wpList_append_lies _ rfl _ _ _ rfl w.heap.size 2 i0 _ 1 8 Try.underlying33 hi0 hz0 hz1 hz2 rfl (by omega) _ k _ rfl (Hres5.out.alloc _) ⟨w5.heap.size, 0, none⟩ 1 1 [.int .i64 p] rfl rfl (World.news_of_block (cs := #[.int .i64 p]) (t := 2) (fr := (0, 0)) (heap_alloc_new w5 _)) (by simp [Value.oneCell']) (by omega) (by unfold maxLen; omega) (by omega) (by simp; omega) (w5.heap.size + 1) (by simp) ?_; intro h6 cap6 w6 ho6 hg6 hat6 hlt6; have Ho6 := Lib.hid (own_cells_eq ho6 (ints_snoc _ p).symm); clear ho6)
        | (refine wpList_append_lies _ rfl _ _ _ rfl w.heap.size 2 i0 _ 1 8 Try.underlying33 hi0 hz0 hz1 hz2 rfl (by omega) _ k _ rfl (Hown.out.alloc _) ⟨wr.heap.size, 0, none⟩ 1 1 [.int .i64 q] rfl rfl (World.news_of_block (cs := #[.int .i64 q]) (t := 2) (fr := (0, 0)) (heap_alloc_new wr _)) (by simp [Value.oneCell']) (by omega) (by unfold maxLen; omega) (by omega) (by simp; omega) (wr.heap.size + 1) (by simp) ?_; intro g5 cap5 w5 ho5 hg5 hat5 hlt5; have Ho5 := Lib.hid (own_cells_eq ho5 (ints_snoc _ q).symm); clear ho5; have Hres5 := Lib.hid ((Hres.out.alloc _).kept hg5 (Or.inr fun e => hgh (Option.some.inj e).symm)); replace e0 := hg5.cell (((Gr.refl wr).alloc _).has e0) (fun e => Nat.ne_of_lt (Nat.lt_of_lt_of_le hbw hgb) (Option.some.inj e)); have hs5 := hg5.size; have hgr5 := (hgr.alloc _).grown hg5 (fun j hj => own_base_le Hown.out hj); have hsz5 := hgr5.size))
      have hs5' : wr.heap.size + 1 ≤ w5.heap.size := by simpa using hs5
      have hg5v : g5 = g ∨ g5 = wr.heap.size + 1 := by
        rcases hat5 with e | e
        · exact Or.inl (Option.some.inj e).symm
        · exact Or.inr e
      have hh6v : h6 = h ∨ h6 = w5.heap.size + 1 := by
        rcases hat6 with e | e
        · exact Or.inl (Option.some.inj e).symm
        · exact Or.inr e
      have hne5 : g5 ≠ h := by rcases hg5v with e | e <;> omega
      have hne6 : g5 ≠ h6 := by rcases hh6v with e | e <;> omega
      have Ho5' := Lib.hid ((Ho5.out.alloc _).kept hg6 (Or.inr fun e => hne5 (Option.some.inj e)))
      have hgr6 := (hgr5.alloc _).grown hg6 (fun j hj => own_base_le Hres5.out hj)
      go_wp2_with fail
      go_roundw
      case rel =>
        refine ⟨k + 1, by omega, by go_num, ?_, ⟨_, _, _, _, rfl, rfl, hne6, by rw [Hso.out]; exact Ho5'.out, by rw [Hsr.out]; exact Ho6.out⟩, hgr6⟩
        rw [Hso.out, List.sum_append, HZ.out]; simp; omega
      case measure => simp [intOf]; omega
    · obtain rfl : k = m := by omega
      have ht' : ws.take k = ws := List.take_of_length_le (by have := Hlen.out; omega)
      rw [ht'] at Hown Hres ⊢
      have hleft : t - (shOut t S ws).sum = shLeft t ws.sum ws := by rw [← HSe.out]; rfl
      obtain ⟨L, hL⟩ : ∃ L, L = shLeft t ws.sum ws := ⟨_, rfl⟩
      rw [hleft, ← hL]
      have hL0 : 0 ≤ L := by rw [hL]; exact shLeft_nonneg HS.out
      have hLm : L ≤ 40 := by
        have h1 := left_count (t := t) HS.out
        have h2 := List.countP_le_length (p := fun z : Int => decide (0 < z)) (l := shRest t ws.sum ws)
        have h3 : (shRest t ws.sum ws).length = k := by simp [shRest]; exact Hlen.out
        omega
      obtain ⟨s0, hs0⟩ : ∃ s0, s0 = (shOut t S ws, shRest t S ws) := ⟨_, rfl⟩
      have hl0 : s0.1.length = k ∧ s0.2.length = k := by rw [hs0]; simp [shOut, shRest]; exact Hlen.out
      have hb0 : ∀ i, 0 ≤ s0.1.getD i 0 ∧ s0.1.getD i 0 ≤ 900000000 := by rw [hs0]; exact shOut_bnd ht (by omega) Hw.out
      have hfin : shares t ws = (shIter L.toNat s0).1 := by rw [shares, ← hL, hs0, HSe.out]
      have Hl0 := Lib.hid hl0
      have Hb0 := Lib.hid hb0
      have Hfin := Lib.hid hfin
      have hO : wr.ownsRow w.heap.size 2 1 (.slice (some ⟨g, 0, none⟩) k c1) k (ints s0.1) := by rw [hs0]; exact Hown.out
      have hR : wr.ownsRow w.heap.size 2 1 (.slice (some ⟨h, 0, none⟩) k d1) k (ints s0.2) := by rw [hs0]; exact Hres.out
      have hgb := own_base_le Hown.out (k := g) rfl
      have hhb := own_base_le Hres.out (k := h) rfl
      have HO := Lib.hid hO
      have HR := Lib.hid hR
      clear hl0 hb0 hfin hO hR hs0 Hown Hres hL hleft ht'
      go_wp2_with fail
      go_loopw [8] (fun lf wq => ∃ j : Nat, (j : Int) ≤ L ∧ lf = .int .i64 (L - j) ∧ wq.ownsRow w.heap.size 2 1 (.slice (some ⟨g, 0, none⟩) k c1) k (ints (shIter j s0).1) ∧ wq.ownsRow w.heap.size 2 1 (.slice (some ⟨h, 0, none⟩) k d1) k (ints (shIter j s0).2) ∧ Gr w wq) (fun lf _ => (intOf lf).toNat)
      case atStart => exact ⟨0, by omega, by simp, HO.out, HR.out, hgr⟩
      case round =>
        obtain ⟨j, hj, rfl, hown, hres, hgq⟩ := hrel
        have HO2 := Lib.hid hown
        have HR2 := Lib.hid hres
        clear hown hres HO HR
        have hln := shIter_len j s0
        have hbn := shIter_bnd Hb0.out j
        have hnx : shIter (j + 1) s0 = shStep (shIter j s0) := shIter_succ j s0
        obtain ⟨q, hq⟩ : ∃ q, q = shIter j s0 := ⟨_, rfl⟩
        rw [← hq] at HO2 HR2 hln hbn hnx
        have hq1 : q.1.length = k := by rw [hln.1, Hl0.out.1]
        have hq2 : q.2.length = k := by rw [hln.2, Hl0.out.2]
        have Hq := Lib.hid hq
        have Hq1 := Lib.hid hq1
        have Hq2 := Lib.hid hq2
        have Hbn := Lib.hid hbn
        have Hnx := Lib.hid hnx
        clear hq hq1 hq2 hbn hnx hln
        by_cases hlt2 : (j : Int) < L
        · have t2 : 0 < L - (j : Int) := by omega
          go_wp2_with fail
          go_loopw [11, 12] (fun b i wz => ∃ p : Nat, 1 ≤ p ∧ p ≤ k ∧ i = .int .i64 p ∧ b = .int .i64 (fmTo q.2 (p - 1) : Nat) ∧ Gr wr wz) (fun _ i _ => k - (intOf i).toNat)
          case atStart => exact ⟨1, Nat.le_refl _, by omega, rfl, rfl, Gr.refl _⟩
          case round =>
            obtain ⟨p, hp1, hpk, rfl, rfl, hgz⟩ := hrel
            have hfl := fmTo_le q.2 (p - 1)
            obtain ⟨f, hf⟩ : ∃ f, f = fmTo q.2 (p - 1) := ⟨_, rfl⟩
            rw [← hf] at hfl ⊢
            have Hf := Lib.hid hf
            have hx2 : q.2[f]? = some (q.2.getD f 0) := get_of_lt (by have := Hq2.out; omega)
            have e2 := hgz.has (own_int HR2.out hx2).1
            by_cases hpl : p < k
            · have hx1 : q.2[p]? = some (q.2.getD p 0) := get_of_lt (by have := Hq2.out; omega)
              have e1 := hgz.has (own_int HR2.out hx1).1
              have hnx2 : fmTo q.2 p = if q.2.getD f 0 < q.2.getD p 0 then p else f := by
                obtain ⟨p', rfl⟩ : ∃ p', p = p' + 1 := ⟨p - 1, by omega⟩
                rw [fmTo_next, hf]; rfl
              have Hnx2 := Lib.hid hnx2
              generalize q.2.getD f 0 = y at *
              generalize q.2.getD p 0 = x at *
              have t1 : (p : Int) < (k : Int) := by omega
              have t0 : (0 : Int) ≤ (p : Int) := by omega
              have u1 : (f : Int) < (k : Int) := by omega
              have u0 : (0 : Int) ≤ (f : Int) := by omega
              clear hx1 hx2 hf hnx2
              by_cases hxy : y < x
              all_goals
                have Hxy := Lib.hid hxy
                go_wp2_with fail
                go_quiet (fail)
                go_wp2_with fail
                go_roundw
                case rel => exact ⟨p + 1, by omega, by omega, by go_num, by rw [Nat.add_sub_cancel, Hnx2.out]; first | rw [if_pos Hxy.out] | rw [if_neg (Int.not_lt.2 Hxy.out)], hgz.drewN _⟩
                case measure => simp [intOf]; omega
            · obtain rfl : p = k := by omega
              have hfm : fm q.2 = f := by rw [fm, Hq2.out]; exact Hf.out.symm
              have hx0 : q.1[f]? = some (q.1.getD f 0) := get_of_lt (by have := Hq1.out; omega)
              obtain ⟨z, hz⟩ : ∃ z, z = q.1.getD f 0 := ⟨_, rfl⟩
              have hzb := Hbn.out f
              have hstep : shStep q = (q.1.set f (z + 1), q.2.set f (-1)) := by rw [shStep, hfm, hz]
              rw [← hz] at hx0 hzb
              have Hstep := Lib.hid hstep
              have hO3 := own_gr HO2.out hgz
              have hR3 := own_gr HR2.out hgz
              obtain ⟨e1, f1⟩ := own_int hO3 hx0
              obtain ⟨e3, f3⟩ := own_int hR3 hx2
              obtain ⟨S1, S2⟩ := own_set_int hO3 f (z + 1)
              have hR4 := hR3.kept S2 (Or.inr fun e => hgh (Option.some.inj e).symm)
              obtain ⟨S3, S4⟩ := own_set_int hR4 f (-1)
              have hO4 := S1.kept S4 (Or.inr fun e => hgh (Option.some.inj e))
              have hg4 : Gr w _ := ((hgq.trans hgz).grown S2 (fun _ e => by injection e with e; omega)).grown S4 (fun _ e => by injection e with e; omega)
              have HO4 := Lib.hid hO4
              have HR4 := Lib.hid S3
              have Hg4 := Lib.hid hg4
              obtain ⟨e5, f5⟩ := own_int hR4 hx2
              have u1 : (f : Int) < (p : Int) := by omega
              have u0 : (0 : Int) ≤ (f : Int) := by omega
              have hwz : IntKind.i64.wrap (z + 1) = z + 1 := IntWalk.i64_in _ (by omega)
              clear hO3 hR3 S1 S2 hR4 S3 S4 hO4 hg4 hx0 hx2 hz hstep hf hfm e2 hfl
              go_wp2_with fail
              go_roundw
              case rel => exact ⟨j + 1, by omega, by go_num, by rw [Hnx.out, Hstep.out]; exact HO4.out, by rw [Hnx.out, Hstep.out]; exact HR4.out, Hg4.out⟩
              case measure => simp [intOf]; omega
        · have hjL : L.toNat = j := by omega
          have HjL := Lib.hid hjL
          clear hjL
          go_wp2_with fail
          go_ret
          exact ⟨_, _, rfl, by rw [Hfin.out, HjL.out, ← Hq.out]; exact HO2.out, hgq⟩
end Go.Proofs.Ytejfpajbkgfiaaa
/-
  Shares: the program.
-/
namespace Go.Proofs.Ytejfpajbkgfiaaa
open Go.ChangeShapes Go.WideShapes Go.ChangeAt Go.RowKit

theorem absOf_any (a : Int) (w : World) (h : -1000000000000000 ≤ a ∧ a ≤ 1000000000000000) : Calls Try.prog 156 #[.int .i64 a] w fun e w' => e = .returned (.int .i64 (sgn a * a)) ∧ w = w' := by
  by_cases h0 : a < 0
  · have e : -a = sgn a * a := by rw [sgn, if_pos h0]; omega
    have E := Lib.hid e
    clear e
    go_enter Try.func156, Try.ntmps156
    go_wp2_with fail
    go_ret
    exact ⟨ret_int E.out, rfl⟩
  · have e : a = sgn a * a := by rw [sgn, if_neg h0]; omega
    have E := Lib.hid e
    clear e
    go_enter Try.func156, Try.ntmps156
    go_wp2_with fail
    go_ret
    exact ⟨ret_int E.out, rfl⟩
theorem fmTo_max (r : List Int) (k : Nat) : max (r.getD (fmTo r k) 0) (r.getD (k + 1) 0) = r.getD (fmTo r (k + 1)) 0 := by
  rw [fmTo_next]
  split <;> omega
theorem max_if (a x : Int) : (if a < x then x else a) = max a x := by split <;> omega
theorem maxInt_any {A : Option Addr} {m c : Nat} (r : List Int) (w : World) (hL : SlAt w 1 A m c (ints r)) (hm : 0 < m) :
    Calls Try.prog 178 #[.slice A m c] w fun e w' => e = .returned (.int .i64 (r.getD (fm r) 0)) ∧ w = w' := by
  have hlen := hL.sl.ilen
  have Hlen := Lib.hid hlen
  have hm1 := hL.small
  obtain ⟨x0, hx0⟩ : ∃ x, r[0]? = some x := ⟨_, List.getElem?_eq_getElem (by omega)⟩
  obtain ⟨b, o, rfl, hb, e0⟩ := hL.sl.int hx0
  rw [Nat.add_zero] at e0
  have h0 : r.getD (fmTo r 0) 0 = x0 := by rw [fmTo, List.getD_eq_getElem?_getD, hx0]; rfl
  have H0 := Lib.hid h0
  have HL := Lib.hid hL
  have t1 : (0 : Int) < (m : Int) := by omega
  have t2 : decide ((m : Int) < 1) = false := by simp; omega
  clear hL hlen hx0 h0
  go_enter Try.func178, Try.ntmps178
  go_wp2_with fail
  go_loop [3, 4] (fun s i => ∃ k : Nat, 1 ≤ k ∧ k ≤ m ∧ i = .int .i64 k ∧ s = .int .i64 (r.getD (fmTo r (k - 1)) 0)) (fun _ i => m - (intOf i).toNat)
  case atStart => exact ⟨1, Nat.le_refl _, hm, rfl, by rw [H0.out]⟩
  case round =>
    obtain ⟨k, hk1, hk, rfl, rfl⟩ := hrel
    by_cases hlt : k < m
    · obtain ⟨x, hx⟩ : ∃ x, r[k]? = some x := ⟨_, List.getElem?_eq_getElem (by have := Hlen.out; omega)⟩
      obtain ⟨b', o', eb, hb', e1⟩ := HL.out.sl.int hx
      injection eb with eb; injection eb with eb1 eb2; subst eb1; subst eb2
      have hst : max (r.getD (fmTo r (k - 1)) 0) x = r.getD (fmTo r k) 0 := by
        obtain ⟨k', rfl⟩ : ∃ k', k = k' + 1 := ⟨k - 1, by omega⟩
        have := fmTo_max r k'
        rw [Nat.add_sub_cancel, ← this]
        congr 1
        rw [List.getD_eq_getElem?_getD, hx]; rfl
      have Hst := Lib.hid hst
      have t3 : (k : Int) < (m : Int) := by omega
      have t4 : (0 : Int) ≤ (k : Int) := by omega
      clear hx hst e0
      go_wp2_with fail
      go_round
      case rel => exact ⟨k + 1, by omega, by omega, by go_num, by rw [Nat.add_sub_cancel, ← Hst.out, ← max_if]; rfl⟩
      case measure => simp [intOf]; omega
    · obtain rfl : k = m := by omega
      go_wp2_with fail
      go_ret
      exact ⟨ret_int (by rw [fm, Hlen.out]), rfl⟩
theorem indexShare_any {A : Option Addr} {m c : Nat} (r : List Int) (v : Int) (b : Nat) (w : World) (hL : SlAt w 1 A m c (ints r)) (hb : r[b]? = some v) (hno : ∀ i, i < b → r.getD i 0 ≠ v) :
    Calls Try.prog 153 #[.slice A m c, .int .i64 v] w fun e w' => e = .returned (.int .i64 b) ∧ w = w' := by
  have hlen := hL.sl.ilen
  have hm1 := hL.small
  have hbm : b < m := by have := (List.getElem?_eq_some_iff.1 hb).1; omega
  have Hlen := Lib.hid hlen
  have HL := Lib.hid hL
  have Hb := Lib.hid hb
  have Hno := Lib.hid hno
  clear hL hlen hb hno
  go_enter Try.func153, Try.ntmps153
  go_wp2_with fail
  go_loop [8] (fun i => ∃ k : Nat, k ≤ b ∧ i = .int .i64 k) (fun i => m - (intOf i).toNat)
  case atStart => exact ⟨0, Nat.zero_le _, rfl⟩
  case round =>
    obtain ⟨k, hk, rfl⟩ := hrel
    obtain ⟨x, hx⟩ : ∃ x, r[k]? = some x := ⟨_, List.getElem?_eq_getElem (by have := Hlen.out; omega)⟩
    obtain ⟨b', o', rfl, hb', e1⟩ := HL.out.sl.int hx
    have t3 : (k : Int) < (m : Int) := by omega
    have t4 : (0 : Int) ≤ (k : Int) := by omega
    by_cases hlt : k < b
    · have hne : v ≠ x := by
        have := Hno.out k hlt
        rw [List.getD_eq_getElem?_getD, hx] at this
        exact fun e => this e.symm
      have hne' : (v == x) = false := by simp [hne]
      clear hx
      go_wp2_with fail
      go_round
      case rel => exact ⟨k + 1, by omega, by go_num⟩
      case measure => simp [intOf]; omega
    · obtain rfl : k = b := by omega
      obtain rfl : x = v := by have := Hb.out; rw [hx] at this; injection this
      clear hx
      go_wp2_with fail
      go_ret
      exact ⟨rfl, rfl⟩
theorem made_own1 (w : World) (n : Nat) (hn : n ≤ 1048576) : (w.alloc (.cells (madeCells #[.int .i64 0] n) 2)).ownsRow w.heap.size 2 1 (.slice (some ⟨w.heap.size, 0, none⟩) n n) n (ints (List.replicate n 0)) := by
  have h1 : (madeCells #[.int .i64 0] n).size = n * 1 := by rw [← Array.length_toList, toList_madeCells_one]; simp
  have h2 := World.ownsRow_lit w (e := 2) (size := 1) (madeCells #[.int .i64 0] n) n (Nat.le_refl _) (by unfold maxLen; omega) h1
  exact own_cells_eq h2 (by rw [toList_madeCells_one]; simp [ints])
theorem two_made (w : World) (n : Nat) (hn : n ≤ 1048576) : ((w.alloc (.cells (madeCells #[.int .i64 0] n) 2)).alloc (.cells (madeCells #[.int .i64 0] n) 2)).drew.ownsRow w.heap.size 2 1 (.slice (some ⟨w.heap.size, 0, none⟩) n n) n (ints (List.replicate n 0)) ∧
    ((w.alloc (.cells (madeCells #[.int .i64 0] n) 2)).alloc (.cells (madeCells #[.int .i64 0] n) 2)).drew.ownsRow w.heap.size 2 1 (.slice (some ⟨w.heap.size + 1, 0, none⟩) n n) n (ints (List.replicate n 0)) := by
  have h1 := made_own1 w n hn
  have h2 := made_own1 (w.alloc (.cells (madeCells #[.int .i64 0] n) 2)) n hn
  rw [World.size_alloc] at h2
  exact ⟨(h1.alloc _).drew, own_base h2.drew (by omega)⟩
theorem fillTo_nil (n : Nat) (l : List Int) : fillTo (0 : Int) l n 0 = List.replicate n 0 := by simp [fillTo]
set_option maxHeartbeats 4000000 in
set_option maxRecDepth 100000 in
theorem sharesOf_any {A : Option Addr} {m c : Nat} (t : Int) (ws : List Int) (w : World) (hL : SlAt w 1 A m c (ints ws)) (hm0 : 0 < m) (hm : m ≤ 40) (ht : 0 ≤ t ∧ t ≤ 30000) (hw : ∀ z ∈ ws, 0 ≤ z ∧ z ≤ 30000) (hS : 0 < ws.sum) :
    Calls Try.prog 157 #[.int .i64 t, .slice A m c] w fun e w' => ∃ g, e = .returned (.slice (some ⟨g, 0, none⟩) m m) ∧ w'.ownsRow w.heap.size 2 1 (.slice (some ⟨g, 0, none⟩) m m) m (ints (shares t ws)) ∧ Gr w w' := by
  have hlen := hL.sl.ilen
  have hm1 := hL.small
  have HL := Lib.hid hL
  have Hw := Lib.hid hw
  have HS := Lib.hid hS
  have Hlen := Lib.hid hlen
  obtain ⟨S, hSe⟩ : ∃ S, S = ws.sum := ⟨_, rfl⟩
  have hSb : 0 < S ∧ S ≤ 31457280000 := by
    have h1 := sum_take_bnd (M := 30000) (by decide) (fun z hz => by have := hw z hz; omega) ws.length
    rw [List.take_length] at h1
    omega
  have HSe := Lib.hid hSe
  clear hL hw hS hlen hSe
  go_enter Try.func157, Try.ntmps157
  go_wp2_with fail
  refine (sumOf_any ws _ HL.out (fun z hz => by have := Hw.out z hz; omega)).mono ?_
  rintro e _ ⟨rfl, rfl⟩
  rw [← HSe.out]
  have hmk := run_make_row' (P := Try.prog) 33 2 (.int .i64 0) 8 Try.underlying33 infoInt64 rfl .i64 .i64 m (by omega) (by omega)
  go_wp2_with fail
  go_cut [6, 7] from 12 (fun s6 s7 wx => ∃ g h, s6 = .slice (some ⟨g, 0, none⟩) m m ∧ s7 = .slice (some ⟨h, 0, none⟩) m m ∧ g ≠ h ∧ wx.ownsRow w.heap.size 2 1 (.slice (some ⟨g, 0, none⟩) m m) m (ints (List.replicate m 0)) ∧ wx.ownsRow w.heap.size 2 1 (.slice (some ⟨h, 0, none⟩) m m) m (ints (List.replicate m 0)) ∧ Gr w wx)
  case first =>
    go_region
    all_goals
      go_wp2_with fail
      go_meet
      case rel =>
        obtain ⟨K1, K2⟩ := two_made w m hm1
        first
          | exact ⟨_, _, rfl, rfl, by omega, K1, K2, (((Gr.refl _).alloc _).alloc _).drew⟩
          | exact ⟨_, _, rfl, rfl, by omega, K2, K1, (((Gr.refl _).alloc _).alloc _).drew⟩
  case rest =>
    obtain ⟨g, h, rfl, rfl, hgh, hO, hR, hgc⟩ := hcut
    have hgb := own_base_le hO (k := g) rfl
    have hhb := own_base_le hR (k := h) rfl
    have hl1 : (shOut t S ws).length = m := by simp [shOut]; exact Hlen.out
    have hl2 : (shRest t S ws).length = m := by simp [shRest]; exact Hlen.out
    have Hl1 := Lib.hid hl1
    have Hl2 := Lib.hid hl2
    rw [← fillTo_nil m (shOut t S ws)] at hO
    rw [← fillTo_nil m (shRest t S ws)] at hR
    have HO := Lib.hid hO
    have HR := Lib.hid hR
    clear hO hR hl1 hl2 hmk
    go_wp2_with fail
    go_loopw [8, 23] (fun lf i wr => ∃ k : Nat, k ≤ m ∧ i = .int .i64 k ∧ lf = .int .i64 (t - (shOut t S (ws.take k)).sum) ∧ wr.ownsRow w.heap.size 2 1 (.slice (some ⟨g, 0, none⟩) m m) m (ints (fillTo 0 (shOut t S ws) m k)) ∧ wr.ownsRow w.heap.size 2 1 (.slice (some ⟨h, 0, none⟩) m m) m (ints (fillTo 0 (shRest t S ws) m k)) ∧ Gr w wr) (fun _ i _ => m - (intOf i).toNat)
    case atStart => exact ⟨0, Nat.zero_le _, rfl, by simp [shOut], HO.out, HR.out, hgc⟩
    case round =>
      obtain ⟨k, hk, rfl, rfl, hown, hres, hgr⟩ := hrel
      have Hown := Lib.hid hown
      have Hres := Lib.hid hres
      clear hown hres HO HR hgc
      by_cases hlt : k < m
      · obtain ⟨x, hx⟩ : ∃ x, ws[k]? = some x := ⟨_, List.getElem?_eq_getElem (by have := Hlen.out; omega)⟩
        obtain ⟨b, o, rfl, hb, e0⟩ := (HL.out.sl.gr hgr).int hx
        obtain ⟨hw1, hw2, hw3, hw4, hw5, hb1, hb2⟩ := share_div ht (Hw.out x (List.mem_of_getElem? hx)) hSb
        have hob := out_part_bnd ht hSb Hw.out k
        have hso := map_take_snoc (g := fun w => t * w / S) hx
        have Hso : Hid (shOut t S (ws.take (k + 1)) = shOut t S (ws.take k) ++ [t * x / S]) := Lib.hid hso
        have hxo : (shOut t S ws)[k]? = some (t * x / S) := by simp [shOut, hx]
        have hxr : (shRest t S ws)[k]? = some (t * x % S) := by simp [shRest, hx]
        generalize t * x / S = q at *
        generalize t * x % S = p at *
        obtain ⟨Z, hZ⟩ : ∃ Z, Z = (shOut t S (ws.take k)).sum := ⟨_, rfl⟩
        rw [← hZ] at hob ⊢
        have HZ := Lib.hid hZ.symm
        obtain ⟨d0, d1⟩ := own_int Hown.out (fillTo_get 0 _ Hl1.out hlt)
        obtain ⟨f0, f1⟩ := own_int Hres.out (fillTo_get 0 _ Hl2.out hlt)
        obtain ⟨R1, R2⟩ := own_set_int Hown.out k q
        have he1 := Hres.out.kept R2 (Or.inr fun e => hgh (Option.some.inj e).symm)
        obtain ⟨R3, R4⟩ := own_set_int he1 k p
        have R5 := R1.kept R4 (Or.inr fun e => hgh (Option.some.inj e))
        rw [fillTo_set 0 _ Hl1.out hxo] at R5
        rw [fillTo_set 0 _ Hl2.out hxr] at R3
        have hg2 := ((hgr.grown R2 (fun _ e => by injection e with e; omega)).grown R4 (fun _ e => by injection e with e; omega)).drew
        have HR3 := Lib.hid R3
        have HR5 := Lib.hid R5
        have Hg2 := Lib.hid hg2
        have t1 : (k : Int) < (m : Int) := by omega
        have t0 : (0 : Int) ≤ (k : Int) := by omega
        have hS0 : ¬ S = 0 := by omega
        clear hx hso hxo hxr hZ R1 R2 he1 R3 R4 R5 hg2
        go_wp2_with fail
        go_region
        go_wp2_with fail
        go_roundw
        case rel =>
          refine ⟨k + 1, by omega, by go_num, ?_, HR5.out.drew, HR3.out.drew, Hg2.out⟩
          rw [Hso.out, List.sum_append, HZ.out]; simp; omega
        case measure => simp [intOf]; omega
      · obtain rfl : k = m := by omega
        have ht' : ws.take k = ws := List.take_of_length_le (by have := Hlen.out; omega)
        have hf1 : fillTo 0 (shOut t S ws) k k = shOut t S ws := by have := fillTo_full 0 (shOut t S ws); rwa [Hl1.out] at this
        have hf2 : fillTo 0 (shRest t S ws) k k = shRest t S ws := by have := fillTo_full 0 (shRest t S ws); rwa [Hl2.out] at this
        rw [ht']
        rw [hf1] at Hown
        rw [hf2] at Hres
        have hleft : t - (shOut t S ws).sum = shLeft t ws.sum ws := by rw [← HSe.out]; rfl
        obtain ⟨L, hL⟩ : ∃ L, L = shLeft t ws.sum ws := ⟨_, rfl⟩
        rw [hleft, ← hL]
        have hL0 : 0 ≤ L := by rw [hL]; exact shLeft_nonneg HS.out
        have hLm : L ≤ 40 := by
          have h1 := left_count (t := t) HS.out
          have h2 := List.countP_le_length (p := fun z : Int => decide (0 < z)) (l := shRest t ws.sum ws)
          have h3 : (shRest t ws.sum ws).length = k := by simp [shRest]; exact Hlen.out
          omega
        obtain ⟨s0, hs0⟩ : ∃ s0, s0 = (shOut t S ws, shRest t S ws) := ⟨_, rfl⟩
        have hl0 : s0.1.length = k ∧ s0.2.length = k := by rw [hs0]; exact ⟨Hl1.out, Hl2.out⟩
        have hb0 : ∀ i, 0 ≤ s0.1.getD i 0 ∧ s0.1.getD i 0 ≤ 900000000 := by rw [hs0]; exact shOut_bnd ht (by omega) Hw.out
        have hfin : shares t ws = (shIter L.toNat s0).1 := by rw [shares, ← hL, hs0, HSe.out]
        have Hl0 := Lib.hid hl0
        have Hb0 := Lib.hid hb0
        have Hfin := Lib.hid hfin
        have hO : wr.ownsRow w.heap.size 2 1 (.slice (some ⟨g, 0, none⟩) k k) k (ints s0.1) := by rw [hs0]; exact Hown.out
        have hR : wr.ownsRow w.heap.size 2 1 (.slice (some ⟨h, 0, none⟩) k k) k (ints s0.2) := by rw [hs0]; exact Hres.out
        have HO := Lib.hid hO
        have HR := Lib.hid hR
        clear hl0 hb0 hfin hO hR hs0 Hown Hres hL hleft ht' hf1 hf2 Hl1 Hl2
        go_wp2_with fail
        go_loopw [8] (fun lf wq => ∃ j : Nat, (j : Int) ≤ L ∧ lf = .int .i64 (L - j) ∧ wq.ownsRow w.heap.size 2 1 (.slice (some ⟨g, 0, none⟩) k k) k (ints (shIter j s0).1) ∧ wq.ownsRow w.heap.size 2 1 (.slice (some ⟨h, 0, none⟩) k k) k (ints (shIter j s0).2) ∧ Gr w wq) (fun lf _ => (intOf lf).toNat)
        case atStart => exact ⟨0, by omega, by simp, HO.out, HR.out, hgr⟩
        case round =>
          obtain ⟨j, hj, rfl, hown, hres, hgq⟩ := hrel
          have HO2 := Lib.hid hown
          have HR2 := Lib.hid hres
          clear hown hres HO HR
          have hln := shIter_len j s0
          have hbn := shIter_bnd Hb0.out j
          have hnx : shIter (j + 1) s0 = shStep (shIter j s0) := shIter_succ j s0
          obtain ⟨q, hq⟩ : ∃ q, q = shIter j s0 := ⟨_, rfl⟩
          rw [← hq] at HO2 HR2 hln hbn hnx
          have hq1 : q.1.length = k := by rw [hln.1, Hl0.out.1]
          have hq2 : q.2.length = k := by rw [hln.2, Hl0.out.2]
          have Hq := Lib.hid hq
          have Hq1 := Lib.hid hq1
          have Hq2 := Lib.hid hq2
          have Hbn := Lib.hid hbn
          have Hnx := Lib.hid hnx
          clear hq hq1 hq2 hbn hnx hln
          by_cases hlt2 : (j : Int) < L
          · have t2 : 0 < L - (j : Int) := by omega
            obtain ⟨f, hf⟩ : ∃ f, f = fm q.2 := ⟨_, rfl⟩
            have hfi : IsFm q.2 f := by rw [hf]; exact fm_is (by have := Hq2.out; omega)
            have hfl : f < k := by have := hfi.lt; have := Hq2.out; omega
            have hx2 : q.2[f]? = some (q.2.getD f 0) := get_of_lt hfi.lt
            have hx0 : q.1[f]? = some (q.1.getD f 0) := get_of_lt (by have := Hq1.out; omega)
            obtain ⟨z, hz⟩ : ∃ z, z = q.1.getD f 0 := ⟨_, rfl⟩
            have hzb := Hbn.out f
            have hstep : shStep q = (q.1.set f (z + 1), q.2.set f (-1)) := by rw [shStep, ← hf, hz]
            rw [← hz] at hx0 hzb
            have Hstep := Lib.hid hstep
            have Hf := Lib.hid hf
            have Hfi := Lib.hid hfi
            have Hx2 := Lib.hid hx2
            obtain ⟨e1, f1⟩ := own_int HO2.out hx0
            obtain ⟨e3, f3⟩ := own_int HR2.out hx2
            obtain ⟨S1, S2⟩ := own_set_int HO2.out f (z + 1)
            have hR4 := HR2.out.kept S2 (Or.inr fun e => hgh (Option.some.inj e).symm)
            obtain ⟨S3, S4⟩ := own_set_int hR4 f (-1)
            have hO4 := S1.kept S4 (Or.inr fun e => hgh (Option.some.inj e))
            have hg4 := (hgq.grown S2 (fun _ e => by injection e with e; omega)).grown S4 (fun _ e => by injection e with e; omega)
            have HO4 := Lib.hid hO4
            have HR4 := Lib.hid S3
            have Hg4 := Lib.hid hg4
            obtain ⟨e5, f5⟩ := own_int hR4 hx2
            have u1 : (f : Int) < (k : Int) := by omega
            have u0 : (0 : Int) ≤ (f : Int) := by omega
            have hwz : IntKind.i64.wrap (z + 1) = z + 1 := IntWalk.i64_in _ (by omega)
            clear S1 S2 hR4 S3 S4 hO4 hg4 hx0 hx2 hz hstep hf hfi
            go_wp2_with fail
            refine (maxInt_any q.2 _ (SlAt.of_own HR2.out hm1) hm0).mono ?_
            rintro e w5 ⟨rfl, hw5⟩
            rw [← hw5, ← Hf.out]
            clear hw5
            go_wp2_with fail
            refine (indexShare_any q.2 (q.2.getD f 0) f _ (SlAt.of_own HR2.out hm1) Hx2.out (fun i hi => Int.ne_of_lt (Hfi.out.fst i hi))).mono ?_
            rintro e w6 ⟨rfl, hw6⟩
            rw [← hw6]
            clear hw6
            go_wp2_with fail
            go_roundw
            case rel => exact ⟨j + 1, by omega, by go_num, by rw [Hnx.out, Hstep.out]; exact HO4.out, by rw [Hnx.out, Hstep.out]; exact HR4.out, Hg4.out⟩
            case measure => simp [intOf]; omega
          · have hjL : L.toNat = j := by omega
            have HjL := Lib.hid hjL
            clear hjL
            go_wp2_with fail
            go_ret
            exact ⟨_, rfl, by rw [Hfin.out, HjL.out, ← Hq.out]; exact HO2.out, hgq⟩
end Go.Proofs.Ytejfpajbkgfiaaa
