/-
  Shares: the reference.
-/
import Derived.Test.YtihkkemkecifcaaAllocM
import Derived.Deep.AppendLies
namespace Go.Proofs.Ytihkkemkecifcaa
open Go.ChangeShapes Go.WideShapes Go.ChangeAt Go.RowKit

theorem map_take_snoc {g : Int → Int} {ws : List Int} {k : Nat} {x : Int} (hx : ws[k]? = some x) : (ws.take (k + 1)).map g = (ws.take k).map g ++ [g x] := map_take_succ g ws hx
theorem fmTo_next {r : List Int} {k : Nat} : fmTo r (k + 1) = if r.getD (fmTo r k) 0 < r.getD (k + 1) 0 then k + 1 else fmTo r k := rfl
theorem share_div {t x S : Int} (ht : 0 ≤ t ∧ t ≤ 30000) (hx : 0 ≤ x ∧ x ≤ 30000) (hS : 0 < S ∧ S ≤ 31457280000) :
    IntKind.i64.wrap (t * x) = t * x ∧ IntKind.i64.wrap ((t * x).tdiv S) = t * x / S ∧ IntKind.i64.wrap ((t * x).tmod S) = t * x % S ∧ (t * x).tdiv S = t * x / S ∧ (t * x).tmod S = t * x % S ∧ (0 ≤ t * x / S ∧ t * x / S ≤ 900000000) ∧ (0 ≤ t * x % S ∧ t * x % S ≤ 31457280000) := by
  have h1 : 0 ≤ t * x := Int.mul_nonneg ht.1 hx.1
  have h2 : t * x ≤ 30000 * 30000 := Int.mul_le_mul ht.2 hx.2 hx.1 (by omega)
  have h3 : t * x / S ≤ t * x := Int.ediv_le_self _ h1
  have h4 := Int.ediv_nonneg h1 (Int.le_of_lt hS.1)
  have h5 := Int.emod_nonneg (t * x) (Int.ne_of_gt hS.1)
  have h6 := Int.emod_lt_of_pos (t * x) hS.1
  refine ⟨IntWalk.i64_in _ (by omega), ?_, ?_, Int.tdiv_eq_ediv_of_nonneg h1, Int.tmod_eq_emod_of_nonneg h1, ⟨h4, by omega⟩, ⟨h5, by omega⟩⟩
  · rw [Int.tdiv_eq_ediv_of_nonneg h1]; exact IntWalk.i64_in _ (by omega)
  · rw [Int.tmod_eq_emod_of_nonneg h1]; exact IntWalk.i64_in _ (by omega)
theorem out_part_bnd {t S : Int} {ws : List Int} (ht : 0 ≤ t ∧ t ≤ 30000) (hS : 0 < S ∧ S ≤ 31457280000) (hw : ∀ z ∈ ws, 0 ≤ z ∧ z ≤ 30000) (k : Nat) : 0 ≤ (shOut t S (ws.take k)).sum ∧ (shOut t S (ws.take k)).sum ≤ 900000000 * (k : Int) := by
  have key : ∀ l : List Int, (∀ z ∈ l, 0 ≤ z ∧ z ≤ 30000) → 0 ≤ (shOut t S l).sum ∧ (shOut t S l).sum ≤ 900000000 * (l.length : Int) := by
    intro l
    induction l with
    | nil => intro _; simp [shOut]
    | cons x l ih =>
      intro h
      have h1 := (share_div ht (h x (List.mem_cons_self ..)) hS).2.2.2.2.2.1
      have h2 := ih (fun z hz => h z (List.mem_cons_of_mem _ hz))
      simp only [shOut, List.map_cons, List.sum_cons, List.length_cons] at h2 ⊢
      push_cast
      omega
  have h1 := key (ws.take k) (fun z hz => hw z (List.mem_of_mem_take hz))
  have h2 : (ws.take k).length ≤ k := by simp; omega
  omega
set_option maxHeartbeats 4000000 in
set_option maxRecDepth 100000 in
theorem l01Shares_any {A : Option Addr} {m c : Nat} (t : Int) (ws : List Int) (w : World) (hL : SlAt w 1 A m c (ints ws)) (hm0 : 0 < m) (hm : m ≤ 40) (ht : 0 ≤ t ∧ t ≤ 30000) (hw : ∀ z ∈ ws, 0 ≤ z ∧ z ≤ 30000) (hS : 0 < ws.sum) :
    Calls Try.prog 55 #[.int .i64 t, .slice A m c] w fun e w' => ∃ B d, e = .returned (.slice B m d) ∧ w'.ownsRow w.heap.size 2 1 (.slice B m d) m (ints (shares t ws)) ∧ Gr w w' := by
  obtain ⟨i0, hi0, hz0, hz1, hz2⟩ := info_parts infoInt64
  have hlen := hL.sl.ilen
  have HL := Lib.hid hL
  have Hw := Lib.hid hw
  have HS := Lib.hid hS
  have Hlen := Lib.hid hlen
  obtain ⟨S, hSe⟩ : ∃ S, S = ws.sum := ⟨_, rfl⟩
  have hSb : 0 < S ∧ S ≤ 31457280000 := by
    have h1 := sum_take_bnd (M := 30000) (by decide) (fun z hz => by have := hw z hz; omega) ws.length
    rw [List.take_length] at h1
    omega
  have HSe := Lib.hid hSe
  clear hL hw hS hlen hSe
  go_enter Try.func55, Try.ntmps55
  go_wp2_with fail
  refine (l01Sum_any ws _ HL.out (fun z hz => by have := Hw.out z hz; omega)).mono ?_
  rintro e _ ⟨rfl, rfl⟩
  rw [← HSe.out]
  go_wp2_with fail
  generalize hw0 : World.alloc (World.alloc w _) _ = w0
  have hs0 : w0.heap.size = w.heap.size + 2 := by rw [← hw0]; simp
  have o0 : w0.ownsRow w.heap.size 2 1 (.slice (some ⟨w.heap.size, 0, none⟩) 0 0) 0 [] := by
    rw [← hw0]; exact (World.ownsRow_lit w (e := 2) (size := 1) #[] 0 (Nat.le_refl _) (by unfold maxLen; omega) rfl).alloc _
  have r0 : w0.ownsRow w.heap.size 2 1 (.slice (some ⟨w.heap.size + 1, 0, none⟩) 0 0) 0 [] := by
    have q := World.ownsRow_lit (w.alloc (.cells #[] 2)) (e := 2) (size := 1) #[] 0 (Nat.le_refl _) (by unfold maxLen; omega) rfl
    rw [World.size_alloc, hw0] at q
    exact own_base q (by omega)
  have hg0 : Gr w w0 := by rw [← hw0]; exact ((Gr.refl _).alloc _).alloc _
  have O0 := Lib.hid o0
  have R0 := Lib.hid r0
  clear hw0 o0 r0 hs0
  go_loopw [6, 7, 8, 9] (fun o r lf i wr => ∃ k : Nat, k ≤ m ∧ i = .int .i64 k ∧ lf = .int .i64 (t - (shOut t S (ws.take k)).sum) ∧ (∃ g h c d, o = .slice (some ⟨g, 0, none⟩) k c ∧ r = .slice (some ⟨h, 0, none⟩) k d ∧ g ≠ h ∧ wr.ownsRow w.heap.size 2 1 (.slice (some ⟨g, 0, none⟩) k c) k (ints (shOut t S (ws.take k))) ∧ wr.ownsRow w.heap.size 2 1 (.slice (some ⟨h, 0, none⟩) k d) k (ints (shRest t S (ws.take k)))) ∧ Gr w wr) (fun _ _ _ i _ => m - (intOf i).toNat)
  case atStart => exact ⟨0, Nat.zero_le _, rfl, by simp [shOut], ⟨_, _, _, _, rfl, rfl, by omega, O0.out, R0.out⟩, hg0⟩
  case round =>
    obtain ⟨k, hk, rfl, rfl, ⟨g, h, c1, d1, rfl, rfl, hgh, hown, hres⟩, hgr⟩ := hrel
    have Hown := Lib.hid hown
    have Hres := Lib.hid hres
    have hsz := hgr.size
    clear hown hres O0 R0 hg0
    by_cases hlt : k < m
    · obtain ⟨x, hx⟩ : ∃ x, ws[k]? = some x := ⟨_, List.getElem?_eq_getElem (by have := Hlen.out; omega)⟩
      obtain ⟨b, o, rfl, hb, e0⟩ := (HL.out.sl.gr hgr).int hx
      obtain ⟨hw1, hw2, hw3, hw4, hw5, hb1, hb2⟩ := share_div ht (Hw.out x (List.mem_of_getElem? hx)) hSb
      have hob := out_part_bnd ht hSb Hw.out k
      have hso := map_take_snoc (g := fun w => t * w / S) hx
      have hsr := map_take_snoc (g := fun w => t * w % S) hx
      have Hso : Hid (shOut t S (ws.take (k + 1)) = shOut t S (ws.take k) ++ [t * x / S]) := Lib.hid hso
      have Hsr : Hid (shRest t S (ws.take (k + 1)) = shRest t S (ws.take k) ++ [t * x % S]) := Lib.hid hsr
      have hhl : h < wr.heap.size := (World.ownsRow.lt Hres.out h rfl).2
      have hbw : b < w.heap.size := by
        obtain ⟨b', o', e, hb', _⟩ := HL.out.sl.int hx
        injection e with e; injection e with e; omega
      have hgb := own_base_le Hown.out (k := g) rfl
      have hhb := own_base_le Hres.out (k := h) rfl
      generalize t * x / S = q at *
      generalize t * x % S = p at *
      obtain ⟨Z, hZ⟩ : ∃ Z, Z = (shOut t S (ws.take k)).sum := ⟨_, rfl⟩
      rw [← hZ] at hob ⊢
      have HZ := Lib.hid hZ.symm
      clear hZ
      have t1 : (k : Int) < (m : Int) := by omega
      have t0 : (0 : Int) ≤ (k : Int) := by omega
      have hS0 : ¬ S = 0 := by omega
      clear hx hso hsr
      go_wp2_with (at_builtin; first
        | (refine wpList_append_lies _ rfl _ _ _ rfl w.heap.size 2 i0 _ 1 8 Try.underlying31 hi0 hz0 hz1 hz2 rfl (by omega) _ k _ rfl (Hres5.out.alloc _) ⟨w5.heap.size, 0, none⟩ 1 1 [.int .i64 p] rfl rfl (World.news_of_block (cs := #[.int .i64 p]) (t := 2) (fr := (0, 0)) (heap_alloc_new w5 _)) (by simp [Value.oneCell']) (by omega) (by unfold maxLen; omega) (by omega) (by simp; omega) (w5.heap.size + 1) (by simp) ?_; intro h6 cap6 w6 ho6 hg6 hat6 hlt6; have Ho6 := Lib.hid (own_cells_eq ho6 (ints_snoc _ p).symm); clear ho6)
        | (refine wpList_append_lies _ rfl _ _ _ rfl w.heap.size 2 i0 _ 1 8 Try.underlying31 hi0 hz0 hz1 hz2 rfl (by omega) _ k _ rfl (Hown.out.alloc _) ⟨wr.heap.size, 0, none⟩ 1 1 [.int .i64 q] rfl rfl (World.news_of_block (cs := #[.int .i64 q]) (t := 2) (fr := (0, 0)) (heap_alloc_new wr _)) (by simp [Value.oneCell']) (by omega) (by unfold maxLen; omega) (by omega) (by simp; omega) (wr.heap.size + 1) (by simp) ?_; intro g5 cap5 w5 ho5 hg5 hat5 hlt5; have Ho5 := Lib.hid (own_cells_eq ho5 (ints_snoc _ q).symm); clear ho5; have Hres5 := Lib.hid ((Hres.out.alloc _).kept hg5 (Or.inr fun e => hgh (Option.some.inj e).symm)); replace e0 := hg5.cell (((Gr.refl wr).alloc _).has e0) (fun e => Nat.ne_of_lt (Nat.lt_of_lt_of_le hbw hgb) (Option.some.inj e)); have hs5 := hg5.size; have hgr5 := (hgr.alloc _).grown hg5 (fun j hj => own_base_le Hown.out hj); have hsz5 := hgr5.size))
      have hs5' : wr.heap.size + 1 ≤ w5.heap.size := by simpa using hs5
      have hg5v : g5 = g ∨ g5 = wr.heap.size + 1 := by
        rcases hat5 with e | e
        · exact Or.inl (Option.some.inj e).symm
        · exact Or.inr e
      have hh6v : h6 = h ∨ h6 = w5.heap.size + 1 := by
        rcases hat6 with e | e
        · exact Or.inl (Option.some.inj e).symm
        · exact Or.inr e
      have hne5 : g5 ≠ h := by rcases hg5v with e | e <;> omega
      have hne6 : g5 ≠ h6 := by rcases hh6v with e | e <;> omega
      have Ho5' := Lib.hid ((Ho5.out.alloc _).kept hg6 (Or.inr fun e => hne5 (Option.some.inj e)))
      have hgr6 := (hgr5.alloc _).grown hg6 (fun j hj => own_base_le Hres5.out hj)
      go_wp2_with fail
      go_roundw
      case rel =>
        refine ⟨k + 1, by omega, by go_num, ?_, ⟨_, _, _, _, rfl, rfl, hne6, by rw [Hso.out]; exact Ho5'.out, by rw [Hsr.out]; exact Ho6.out⟩, hgr6⟩
        rw [Hso.out, List.sum_append, HZ.out]; simp; omega
      case measure => simp [intOf]; omega
    · obtain rfl : k = m := by omega
      have ht' : ws.take k = ws := List.take_of_length_le (by have := Hlen.out; omega)
      rw [ht'] at Hown Hres ⊢
      have hleft : t - (shOut t S ws).sum = shLeft t ws.sum ws := by rw [← HSe.out]; rfl
      obtain ⟨L, hL⟩ : ∃ L, L = shLeft t ws.sum ws := ⟨_, rfl⟩
      rw [hleft, ← hL]
      have hL0 : 0 ≤ L := by rw [hL]; exact shLeft_nonneg HS.out
      have hLm : L ≤ 40 := by
        have h1 := left_count (t := t) HS.out
        have h2 := List.countP_le_length (p := fun z : Int => decide (0 < z)) (l := shRest t ws.sum ws)
        have h3 : (shRest t ws.sum ws).length = k := by simp [shRest]; exact Hlen.out
        omega
      obtain ⟨s0, hs0⟩ : ∃ s0, s0 = (shOut t S ws, shRest t S ws) := ⟨_, rfl⟩
      have hl0 : s0.1.length = k ∧ s0.2.length = k := by rw [hs0]; simp [shOut, shRest]; exact Hlen.out
      have hb0 : ∀ i, 0 ≤ s0.1.getD i 0 ∧ s0.1.getD i 0 ≤ 900000000 := by rw [hs0]; exact shOut_bnd ht (by omega) Hw.out
      have hfin : shares t ws = (shIter L.toNat s0).1 := by rw [shares, ← hL, hs0, HSe.out]
      have Hl0 := Lib.hid hl0
      have Hb0 := Lib.hid hb0
      have Hfin := Lib.hid hfin
      have hO : wr.ownsRow w.heap.size 2 1 (.slice (some ⟨g, 0, none⟩) k c1) k (ints s0.1) := by rw [hs0]; exact Hown.out
      have hR : wr.ownsRow w.heap.size 2 1 (.slice (some ⟨h, 0, none⟩) k d1) k (ints s0.2) := by rw [hs0]; exact Hres.out
      have hgb := own_base_le Hown.out (k := g) rfl
      have hhb := own_base_le Hres.out (k := h) rfl
      have HO := Lib.hid hO
      have HR := Lib.hid hR
      clear hl0 hb0 hfin hO hR hs0 Hown Hres hL hleft ht'
      go_wp2_with fail
      go_loopw [8] (fun lf wq => ∃ j : Nat, (j : Int) ≤ L ∧ lf = .int .i64 (L - j) ∧ wq.ownsRow w.heap.size 2 1 (.slice (some ⟨g, 0, none⟩) k c1) k (ints (shIter j s0).1) ∧ wq.ownsRow w.heap.size 2 1 (.slice (some ⟨h, 0, none⟩) k d1) k (ints (shIter j s0).2) ∧ Gr w wq) (fun lf _ => (intOf lf).toNat)
      case atStart => exact ⟨0, by omega, by simp, HO.out, HR.out, hgr⟩
      case round =>
        obtain ⟨j, hj, rfl, hown, hres, hgq⟩ := hrel
        have HO2 := Lib.hid hown
        have HR2 := Lib.hid hres
        clear hown hres HO HR
        have hln := shIter_len j s0
        have hbn := shIter_bnd Hb0.out j
        have hnx : shIter (j + 1) s0 = shStep (shIter j s0) := shIter_succ j s0
        obtain ⟨q, hq⟩ : ∃ q, q = shIter j s0 := ⟨_, rfl⟩
        rw [← hq] at HO2 HR2 hln hbn hnx
        have hq1 : q.1.length = k := by rw [hln.1, Hl0.out.1]
        have hq2 : q.2.length = k := by rw [hln.2, Hl0.out.2]
        have Hq := Lib.hid hq
        have Hq1 := Lib.hid hq1
        have Hq2 := Lib.hid hq2
        have Hbn := Lib.hid hbn
        have Hnx := Lib.hid hnx
        clear hq hq1 hq2 hbn hnx hln
        by_cases hlt2 : (j : Int) < L
        · have t2 : 0 < L - (j : Int) := by omega
          go_wp2_with fail
          go_loopw [11, 12] (fun b i wz => ∃ p : Nat, 1 ≤ p ∧ p ≤ k ∧ i = .int .i64 p ∧ b = .int .i64 (fmTo q.2 (p - 1) : Nat) ∧ Gr wr wz) (fun _ i _ => k - (intOf i).toNat)
          case atStart => exact ⟨1, Nat.le_refl _, by omega, rfl, rfl, Gr.refl _⟩
          case round =>
            obtain ⟨p, hp1, hpk, rfl, rfl, hgz⟩ := hrel
            have hfl := fmTo_le q.2 (p - 1)
            obtain ⟨f, hf⟩ : ∃ f, f = fmTo q.2 (p - 1) := ⟨_, rfl⟩
            rw [← hf] at hfl ⊢
            have Hf := Lib.hid hf
            have hx2 : q.2[f]? = some (q.2.getD f 0) := get_of_lt (by have := Hq2.out; omega)
            have e2 := hgz.has (own_int HR2.out hx2).1
            by_cases hpl : p < k
            · have hx1 : q.2[p]? = some (q.2.getD p 0) := get_of_lt (by have := Hq2.out; omega)
              have e1 := hgz.has (own_int HR2.out hx1).1
              have hnx2 : fmTo q.2 p = if q.2.getD f 0 < q.2.getD p 0 then p else f := by
                obtain ⟨p', rfl⟩ : ∃ p', p = p' + 1 := ⟨p - 1, by omega⟩
                rw [fmTo_next, hf]; rfl
              have Hnx2 := Lib.hid hnx2
              generalize q.2.getD f 0 = y at *
              generalize q.2.getD p 0 = x at *
              have t1 : (p : Int) < (k : Int) := by omega
              have t0 : (0 : Int) ≤ (p : Int) := by omega
              have u1 : (f : Int) < (k : Int) := by omega
              have u0 : (0 : Int) ≤ (f : Int) := by omega
              clear hx1 hx2 hf hnx2
              by_cases hxy : y < x
              all_goals
                have Hxy := Lib.hid hxy
                go_wp2_with fail
                go_quiet (fail)
                go_wp2_with fail
                go_roundw
                case rel => exact ⟨p + 1, by omega, by omega, by go_num, by rw [Nat.add_sub_cancel, Hnx2.out]; first | rw [if_pos Hxy.out] | rw [if_neg (Int.not_lt.2 Hxy.out)], hgz.drewN _⟩
                case measure => simp [intOf]; omega
            · obtain rfl : p = k := by omega
              have hfm : fm q.2 = f := by rw [fm, Hq2.out]; exact Hf.out.symm
              have hx0 : q.1[f]? = some (q.1.getD f 0) := get_of_lt (by have := Hq1.out; omega)
              obtain ⟨z, hz⟩ : ∃ z, z = q.1.getD f 0 := ⟨_, rfl⟩
              have hzb := Hbn.out f
              have hstep : shStep q = (q.1.set f (z + 1), q.2.set f (-1)) := by rw [shStep, hfm, hz]
              rw [← hz] at hx0 hzb
              have Hstep := Lib.hid hstep
              have hO3 := own_gr HO2.out hgz
              have hR3 := own_gr HR2.out hgz
              obtain ⟨e1, f1⟩ := own_int hO3 hx0
              obtain ⟨e3, f3⟩ := own_int hR3 hx2
              obtain ⟨S1, S2⟩ := own_set_int hO3 f (z + 1)
              have hR4 := hR3.kept S2 (Or.inr fun e => hgh (Option.some.inj e).symm)
              obtain ⟨S3, S4⟩ := own_set_int hR4 f (-1)
              have hO4 := S1.kept S4 (Or.inr fun e => hgh (Option.some.inj e))
              have hg4 : Gr w _ := ((hgq.trans hgz).grown S2 (fun _ e => by injection e with e; omega)).grown S4 (fun _ e => by injection e with e; omega)
              have HO4 := Lib.hid hO4
              have HR4 := Lib.hid S3
              have Hg4 := Lib.hid hg4
              obtain ⟨e5, f5⟩ := own_int hR4 hx2
              have u1 : (f : Int) < (p : Int) := by omega
              have u0 : (0 : Int) ≤ (f : Int) := by omega
              have hwz : IntKind.i64.wrap (z + 1) = z + 1 := IntWalk.i64_in _ (by omega)
              clear hO3 hR3 S1 S2 hR4 S3 S4 hO4 hg4 hx0 hx2 hz hstep hf hfm e2 hfl
              go_wp2_with fail
              go_roundw
              case rel => exact ⟨j + 1, by omega, by go_num, by rw [Hnx.out, Hstep.out]; exact HO4.out, by rw [Hnx.out, Hstep.out]; exact HR4.out, Hg4.out⟩
              case measure => simp [intOf]; omega
        · have hjL : L.toNat = j := by omega
          have HjL := Lib.hid hjL
          clear hjL
          go_wp2_with fail
          go_ret
          exact ⟨_, _, rfl, by rw [Hfin.out, HjL.out, ← Hq.out]; exact HO2.out, hgq⟩
end Go.Proofs.Ytihkkemkecifcaa
