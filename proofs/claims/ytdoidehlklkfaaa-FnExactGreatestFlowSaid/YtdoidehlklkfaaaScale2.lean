/-
  Scales and scaled transports: the book's part.
-/
import Derived.Test.YtdoidehlklkfaaaScale
import Derived.Deep.RegionHeld3
import Derived.Deep.AppendLies
namespace Go.Proofs.Ytdoidehlklkfaaa
open Go.ChangeShapes Go.WideShapes Go.ChangeAt Go.RowKit

theorem l24Scales_any {A : Option Addr} {m c : Nat} (zs : List Int) (w : World) (hL : SlAt w 1 A m c (ints zs)) :
    Calls Try.prog 98 #[.slice A m c] w fun e w' => e = .returned (.bool (scOk zs)) ∧ w = w' := by
  have hlen := hL.sl.ilen
  have Hlen := Lib.hid hlen
  have hm := hL.small
  have HL := Lib.hid hL
  clear hL hlen
  go_enter Try.func98, Try.ntmps98
  go_wp2_with fail
  go_loop [3] (fun i => ∃ k : Nat, k ≤ m ∧ i = .int .i64 k ∧ ∀ q, q < k → ∀ y, zs[q]? = some y → inB 0 y 100 = true) (fun i => m - (intOf i).toNat)
  case atStart => exact ⟨0, Nat.zero_le _, rfl, fun j h => absurd h (by omega)⟩
  case round =>
    obtain ⟨k, hk, rfl, hno⟩ := hrel
    have Hno := Lib.hid hno
    clear hno
    by_cases hlt : k < m
    · obtain ⟨x, hx⟩ : ∃ x, zs[k]? = some x := ⟨_, List.getElem?_eq_getElem (by have := Hlen.out; omega)⟩
      obtain ⟨b, o, rfl, hb, e0⟩ := HL.out.sl.int hx
      have Hx := Lib.hid hx
      clear hx
      go_wp2_with fail
      refine (l01In_any _ _ _ _).mono ?_
      rintro e w' ⟨rfl, rfl⟩
      cases hok : inB 0 x 100 with
      | true =>
        have Hokx := Lib.hid hok
        go_wp2_with fail
        go_round
        case rel => exact ⟨k + 1, by omega, by go_num, all_step (p := fun z => inB 0 z 100) Hx.out Hokx.out Hno.out⟩
        case measure => simp [intOf]; omega
      | false =>
        have Hokx := Lib.hid hok
        go_wp2_with fail
        go_ret
        refine ⟨ret_bool ?_, rfl⟩
        have := all_not (p := fun z => inB 0 z 100) Hx.out Hokx.out
        simp only [scOk, this, Bool.and_false]
    · obtain rfl : k = m := by omega
      have hall := all_of (p := fun z => inB 0 z 100) (l := zs) (by rw [Hlen.out]; exact Hno.out)
      have Hall := Lib.hid hall
      clear hall
      go_wp2_with fail
      go_ret
      refine ⟨ret_bool ?_, rfl⟩
      rw [scOk, Hall.out, Hlen.out, Bool.and_true]
      by_cases e : k = 4 <;> simp [e] <;> omega

def onlyScales (q : Int) : List Int := (List.range 4).map fun (k : Nat) => if (k : Int) < q then 100 else 0
theorem onlyScales_ok (q : Int) : scOk (onlyScales q) = true := by
  simp only [scOk, onlyScales, List.length_map, List.length_range, decide_true, Bool.true_and, List.all_map, List.all_eq_true]
  intro k _
  simp only [Function.comp]
  split <;> decide

theorem own_base_le {w : World} {base : Nat} {e : TypeId} {size n k : Nat} {v : Value} {xs : List Value} (h : w.ownsRow base e size v n xs) (hk : v.ownBlock = some k) : base ≤ k := by
  rcases h.2 with ⟨hv, _⟩ | ⟨g, cap, cur, hv, hb, _⟩
  · rw [hv] at hk; simp [Value.ownBlock] at hk
  · rw [hv] at hk; simp [Value.ownBlock] at hk; omega
theorem own_block_lt {w : World} {base : Nat} {e : TypeId} {size n k : Nat} {v : Value} {xs : List Value} (h : w.ownsRow base e size v n xs) (hk : v.ownBlock = some k) : k < w.heap.size := by
  rcases h.2 with ⟨hv, _⟩ | ⟨g, cap, cur, hv, hb, hg, _⟩
  · rw [hv] at hk; simp [Value.ownBlock] at hk
  · rw [hv] at hk
    simp [Value.ownBlock] at hk
    subst hk
    rcases Nat.lt_or_ge g w.heap.size with hlt | hge
    · exact hlt
    · rw [Array.getElem?_eq_none hge] at hg; cases hg
theorem ints_snoc (l : List Int) (x : Int) : ints (l ++ [x]) = ints l ++ [.int .i64 x] := by simp [ints]
theorem flat_snoc {α : Type} (f : α → List Value) (l : List α) (x : α) : (l ++ [x]).flatMap f = l.flatMap f ++ f x := by simp
theorem map_take_succ {α β : Type} (f : α → β) (l : List α) {k : Nat} {x : α} (hx : l[k]? = some x) : (l.take (k + 1)).map f = (l.take k).map f ++ [f x] := by
  rw [List.take_add_one, hx]; simp

theorem l24Only_any (q : Int) (w : World) :
    Calls Try.prog 92 #[.int .i64 q] w fun e w' => ∃ A c, e = .returned (.slice A 4 c) ∧ w'.ownsRow w.heap.size 2 1 (.slice A 4 c) 4 (ints (onlyScales q)) ∧ Gr w w' := by
  obtain ⟨i0, hi0, hz0, hz1, hz2⟩ := info_parts infoInt64
  go_enter Try.func92, Try.ntmps92
  go_wp2_with fail
  go_loopw [3, 4] (fun o i wr => ∃ k : Nat, k ≤ 4 ∧ i = .int .i64 k ∧ (∃ A c, o = .slice A k c) ∧ wr.ownsRow w.heap.size 2 1 o k (ints ((onlyScales q).take k)) ∧ Gr w wr) (fun _ i _ => 4 - (intOf i).toNat)
  case atStart => exact ⟨0, by omega, rfl, ⟨_, _, rfl⟩, World.ownsRow_lit w #[] 0 (Nat.le_refl _) (by unfold maxLen; omega) rfl, (Gr.refl _).alloc _⟩
  case round =>
    obtain ⟨k, hk, rfl, ⟨A, c, rfl⟩, hownr, hgr⟩ := hrel
    have Hown := Lib.hid hownr
    clear hownr
    by_cases hlt : k < 4
    · have t1 : (k : Int) < 4 := by omega
      have hb := hgr.size
      obtain ⟨s, hs⟩ : ∃ s : Int, s = if (k : Int) < q then 100 else 0 := ⟨_, rfl⟩
      have hn : (onlyScales q)[k]? = some s := by simp [onlyScales, hlt, hs]
      have hstep : (onlyScales q).take (k + 1) = (onlyScales q).take k ++ [s] := by rw [List.take_add_one, hn]; rfl
      have Hs := Lib.hid hs
      have Hst := Lib.hid hstep
      clear hs hn hstep
      by_cases hc : (k : Int) < q
      all_goals
        have hsv := Hs.out
        first | rw [if_pos hc] at hsv | rw [if_neg hc] at hsv
        subst hsv
        go_wp2_with (at_builtin; refine wpList_append_own _ rfl _ _ _ rfl w.heap.size 2 i0 _ 1 8 Try.underlying49 hi0 hz0 hz1 hz2 rfl (by omega) _ k _ rfl (Hown.out.alloc _) ⟨wr.heap.size, 0, none⟩ 1 1 [.int .i64 _] rfl rfl (World.news_of_block (cs := #[.int .i64 _]) (t := 2) (fr := (0, 0)) (heap_alloc_new wr _)) (by simp [Value.oneCell']) (by unfold maxLen; omega) (by omega) (by simp; omega) ?_; intro v' w1 hown hg _)
        have hsh := own_shape hown
        obtain ⟨A', c', rfl⟩ := hsh
        have Ho := Lib.hid hown
        clear hown
        go_wp2_with fail
        go_roundw
        case rel =>
          refine ⟨k + 1, by omega, by go_num, ⟨_, _, rfl⟩, ?_, ?_⟩
          · rw [Hst.out, ints_snoc]; exact Ho.out
          · exact (hgr.alloc _).grown hg (fun j hj => own_base_le Hown.out hj)
        case measure => simp [intOf]; omega
    · obtain rfl : k = 4 := by omega
      go_wp2_with fail
      go_ret
      exact ⟨_, _, rfl, Hown.out, hgr⟩
set_option maxHeartbeats 3200000 in
set_option maxRecDepth 100000 in
theorem l24Scale_any {A A4 : Option Addr} {n c n4 c4 : Nat} (nn : Int) (l : List GTr) (sc : List Int) (w : World) (hL : SlAt w 4 A n c (l.flatMap GTr.cells)) (hS : SlAt w 1 A4 n4 c4 (ints sc)) (hok : trsOk nn l = true) (hsc : scOk sc = true) :
    Calls Try.prog 91 #[.slice A n c, .slice A4 n4 c4] w fun e w' => ∃ A' c', e = .returned (.slice A' n c') ∧ w'.ownsRow w.heap.size 86 4 (.slice A' n c') n ((scaled sc l).flatMap GTr.cells) ∧ Gr w w' := by
  obtain ⟨i0, hi0, hz0, hz1, hz2⟩ := info_parts infoTransport
  have hlen := hL.sl.len GTr.cells_len (by omega)
  have hlen4 := hS.sl.ilen
  have Hlen := Lib.hid hlen
  have Hlen4 := Lib.hid hlen4
  have hm := hL.small
  have HL := Lib.hid hL
  have HS := Lib.hid hS
  have Hok := Lib.hid hok
  have Hsc := Lib.hid hsc
  clear hL hS hok hsc hlen hlen4
  go_enter Try.func91, Try.ntmps91
  go_wp2_with fail
  go_loopw [5, 6] (fun o i wr => ∃ k : Nat, k ≤ n ∧ i = .int .i64 k ∧ (∃ A c, o = .slice A k c) ∧ wr.ownsRow w.heap.size 86 4 o k (((l.take k).map (scaleOne sc)).flatMap GTr.cells) ∧ Gr w wr) (fun _ i _ => n - (intOf i).toNat)
  case atStart => exact ⟨0, Nat.zero_le _, rfl, ⟨_, _, rfl⟩, World.ownsRow_lit w #[] 0 (Nat.le_refl _) (by unfold maxLen; omega) rfl, (Gr.refl _).alloc _⟩
  case round =>
    obtain ⟨k, hk, rfl, ⟨A1, c1, rfl⟩, hownr, hgr⟩ := hrel
    have Hown := Lib.hid hownr
    clear hownr
    by_cases hlt : k < n
    · obtain ⟨x, hx⟩ : ∃ x, l[k]? = some x := ⟨_, List.getElem?_eq_getElem (by have := Hlen.out; omega)⟩
      obtain ⟨_, _, _, p4, p5⟩ := trOk_all ((trsOk_all Hok.out).2 k x hx)
      obtain ⟨q1, q2⟩ := scOk_all Hsc.out
      have hn4 : n4 = 4 := by have := Hlen4.out; omega
      subst hn4
      have hgs := get_of_lt (l := sc) (k := x.cls.toNat) (by omega)
      obtain ⟨s, hs⟩ : ∃ s, s = sc.getD x.cls.toNat 0 := ⟨_, rfl⟩
      rw [← hs] at hgs
      obtain ⟨b4, o4, rfl, hb4, r0⟩ := HS.out.sl.int hgs
      replace r0 := hgr.has r0
      have hsb := q2 _ _ hgs
      obtain ⟨b, o, rfl, hb, d0, d1, d2, d3⟩ := (HL.out.sl.gr hgr).tr hx
      have hbase := hgr.size
      have hstep := map_take_succ (scaleOne sc) l hx
      have Hst := Lib.hid hstep
      have hp := mul_bnd p4 hsb
      obtain ⟨p, hpe⟩ : ∃ p, p = x.amount * s := ⟨_, rfl⟩
      rw [← hpe] at hp
      have hae : p / 100 = scaleAmt sc x := by rw [hpe, hs]; rfl
      have Hae := Lib.hid hae
      have s1 : 0 ≤ x.cls := p5.1
      have s2 : x.cls < 4 := by omega
      have t1 : (k : Int) < (n : Int) := by omega
      have t0 : (0 : Int) ≤ (k : Int) := by omega
      have Hpe := Lib.hid hpe
      clear hx hs hgs hae hpe p5 q2 hstep
      go_wp2_with fail
      generalize hw1 : wr.alloc _ = w1
      have hN : w1.heap.size = wr.heap.size + 1 := by rw [← hw1]; simp
      have hnew : ∀ o : Obj, (w1.alloc o).heap[wr.heap.size + 1]? = some o := fun o => by rw [← hN]; exact heap_alloc_new w1 o
      have z0 : w1.cell? ⟨wr.heap.size, 0, none⟩ = some (.int .i64 x.entry) := by rw [← hw1]; simp [go_sem]
      have z1 : w1.cell? ⟨wr.heap.size, 1, none⟩ = some (.int .i64 x.exit) := by rw [← hw1]; simp [go_sem]
      have z2 : w1.cell? ⟨wr.heap.size, 2, none⟩ = some (.int .i64 x.amount) := by rw [← hw1]; simp [go_sem]
      have z3 : w1.cell? ⟨wr.heap.size, 3, none⟩ = some (.int .i64 x.cls) := by rw [← hw1]; simp [go_sem]
      have hgr1 : Gr wr w1 := by rw [← hw1]; exact (Gr.refl _).alloc _
      have z4 := hgr1.has r0
      have hgw : Gr w w1 := hgr.trans hgr1
      have hown := own_gr Hown.out hgr1
      have Ho1 := Lib.hid hown
      have hfar : ∀ j, (Value.slice A1 k c1).ownBlock = some j → j ≠ wr.heap.size ∧ j ≠ b4 := by
        intro j hj
        have e1 := own_base_le Hown.out hj
        have e2 := own_block_lt Hown.out hj
        omega
      clear hown hw1 d0 d1 d2 d3 r0
      have hw1 : IntKind.i64.wrap (x.amount * s) = p := by rw [IntWalk.i64_in _ (by rw [← Hpe.out]; omega), Hpe.out]
      have hw2 : IntKind.i64.wrap (p.tdiv 100) = p / 100 := by rw [Int.tdiv_eq_ediv_of_nonneg hp.1]; exact IntWalk.i64_in _ (by omega)
      go_region_held3 (fun w' => w'.cell? ⟨wr.heap.size, 0, none⟩ = some (.int .i64 x.entry) ∧ w'.cell? ⟨wr.heap.size, 1, none⟩ = some (.int .i64 x.exit) ∧ w'.cell? ⟨wr.heap.size, 2, none⟩ = some (.int .i64 x.amount) ∧ w'.cell? ⟨wr.heap.size, 3, none⟩ = some (.int .i64 x.cls) ∧ w'.cell? ⟨b4, o4 + x.cls.toNat, none⟩ = some (.int .i64 s))
        (first
          | go_keep
          | (go_split_ands
             refine ⟨?_, ?_, ?_, ?_, ?_⟩
             · (rw [hgrow.cell_far _ (by simp; omega) (fun e => (hfar _ e.symm).1 rfl)]; assumption)
             · (rw [hgrow.cell_far _ (by simp; omega) (fun e => (hfar _ e.symm).1 rfl)]; assumption)
             · (rw [hgrow.cell_far _ (by simp; omega) (fun e => (hfar _ e.symm).1 rfl)]; assumption)
             · (rw [hgrow.cell_far _ (by simp; omega) (fun e => (hfar _ e.symm).1 rfl)]; assumption)
             · (rw [hgrow.cell_far _ (by simp; omega) (fun e => (hfar _ e.symm).2 rfl)]; assumption)))
        ((refine step_append_lies _ (by rfl) _ _ _ (by rfl) w.heap.size 86 i0 _ 4 32 Try.underlying35 hi0 hz0 hz1 hz2 rfl (by omega) _ k _ (by rfl) ((Ho1.out.alloc _).drew) ⟨wr.heap.size + 1, 0, none⟩ 1 1 [.int .i64 x.entry, .int .i64 x.exit, .int .i64 (p / 100), .int .i64 x.cls] (by rfl) (by rfl) (World.news_of_block (cs := #[.int .i64 x.entry, .int .i64 x.exit, .int .i64 (p / 100), .int .i64 x.cls]) (t := 86) (fr := (0, 0)) (hnew _)) (by simp [Value.oneCell']) (by omega) (by unfold maxLen; omega) (by omega) (by simp; omega) (wr.heap.size + 1 + 1) (by simp [hN]) ?_; intro gg cap w2 hown1 hgrow hat hlt2))
      clear hw1 hw2 hfar
      have Ho2 := Lib.hid hown1
      clear hown1
      go_wp2_with fail
      go_roundw
      case rel =>
        refine ⟨k + 1, by omega, by go_num, ⟨_, _, rfl⟩, ?_, ?_⟩
        · rw [Hst.out, flat_snoc]; rw [Hae.out] at Ho2; exact Ho2.out
        · exact ((hgw.alloc _).drew).grown hgrow (fun j hj => own_base_le Hown.out hj)
      case measure => simp [intOf]; omega
    · obtain rfl : k = n := by omega
      go_wp2_with fail
      go_ret
      refine ⟨_, _, rfl, ?_, hgr⟩
      have h := Hown.out
      rw [List.take_of_length_le (by rw [Hlen.out]; exact Nat.le_refl _)] at h
      exact h
end Go.Proofs.Ytdoidehlklkfaaa
