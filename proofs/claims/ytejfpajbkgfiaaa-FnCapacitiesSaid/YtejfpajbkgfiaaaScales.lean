import Derived.Test.YtejfpajbkgfiaaaSups
import Derived.Test.YtejfpajbkgfiaaaClone
import Derived.Deep.RegionHeld3
import Derived.Deep.AppendLies
/-
  Plain functions: scaled transports.
-/
namespace Go.Proofs.Ytejfpajbkgfiaaa
open Go.RowKit

def scaleAmt (sc : List Int) (x : GTr) : Int := x.amount * sc.getD x.cls.toNat 0 / 100
def scaleOne (sc : List Int) (x : GTr) : GTr := ⟨x.entry, x.exit, scaleAmt sc x, x.cls⟩
def scaled (sc : List Int) (l : List GTr) : List GTr := l.map (scaleOne sc)
def scOk (sc : List Int) : Bool := decide (sc.length = 4) && sc.all fun z => inB 0 z 100
theorem scOk_all {sc : List Int} (h : scOk sc = true) : sc.length = 4 ∧ ∀ (j : Nat) (z : Int), sc[j]? = some z → 0 ≤ z ∧ z ≤ 100 := by
  simp only [scOk, Bool.and_eq_true, decide_eq_true_eq, List.all_eq_true] at h
  exact ⟨h.1, fun j z hz => inB_iff.1 (h.2 z (List.mem_of_getElem? hz))⟩
theorem mul_bnd {a s : Int} (h1 : 0 ≤ a ∧ a ≤ 30000) (h2 : 0 ≤ s ∧ s ≤ 100) : 0 ≤ a * s ∧ a * s ≤ 3000000 := by
  refine ⟨Int.mul_nonneg h1.1 h2.1, ?_⟩
  have := Int.mul_le_mul h1.2 h2.2 h2.1 (by omega)
  omega
theorem set_tr_amount (ys : List GTr) (k : Nat) (x : GTr) (a : Int) (hx : ys[k]? = some x) : (ys.flatMap GTr.cells).set (k * 4 + 2) (.int .i64 a) = (ys.set k ⟨x.entry, x.exit, a, x.cls⟩).flatMap GTr.cells := by
  induction ys generalizing k with
  | nil => simp at hx
  | cons y ys ih =>
    cases k with
    | zero =>
      simp at hx
      subst hx
      simp [GTr.cells]
    | succ k =>
      have hx' : ys[k]? = some x := by simpa using hx
      rw [List.set_cons_succ, List.flatMap_cons, List.flatMap_cons, ← ih k hx']
      have e : (k + 1) * 4 + 2 = y.cells.length + (k * 4 + 2) := by rw [GTr.cells_len]; omega
      rw [e, List.set_append_right _ _ (by omega), Nat.add_sub_cancel_left]
theorem own_set_tr_amount {w : World} {base : Nat} {e : TypeId} {n c g k : Nat} {ys : List GTr} {x : GTr} (h : w.ownsRow base e 4 (.slice (some ⟨g, 0, none⟩) n c) n (ys.flatMap GTr.cells)) (a : Int) (hx : ys[k]? = some x) :
    (w.setCell ⟨g, k * 4 + 2, none⟩ (.int .i64 a)).ownsRow base e 4 (.slice (some ⟨g, 0, none⟩) n c) n ((ys.set k ⟨x.entry, x.exit, a, x.cls⟩).flatMap GTr.cells) ∧ w.grownBy (w.setCell ⟨g, k * 4 + 2, none⟩ (.int .i64 a)) (some g) := by
  have h0 := h.stored (k * 4 + 2) (.int .i64 a)
  rw [set_tr_amount ys k x a hx] at h0
  exact h0
/-- The elements that a function has gone over so far. -/
def mapTo {α : Type} (f : α → α) (l : List α) (k : Nat) : List α := (l.take k).map f ++ l.drop k
theorem mapTo_zero {α : Type} (f : α → α) (l : List α) : mapTo f l 0 = l := by simp [mapTo]
theorem mapTo_full {α : Type} (f : α → α) (l : List α) (k : Nat) (hk : l.length ≤ k) : mapTo f l k = l.map f := by simp [mapTo, List.take_of_length_le hk, List.drop_of_length_le hk]
theorem mapTo_length {α : Type} (f : α → α) (l : List α) (k : Nat) : (mapTo f l k).length = l.length := by simp [mapTo]; omega
theorem mapTo_get {α : Type} (f : α → α) (l : List α) {k : Nat} {x : α} (hx : l[k]? = some x) : (mapTo f l k)[k]? = some x := by
  have hl := (List.getElem?_eq_some_iff.1 hx).1
  rw [mapTo, List.getElem?_append_right (by simp; omega)]
  simp only [List.length_map, List.length_take, Nat.min_eq_left (Nat.le_of_lt hl), Nat.sub_self, List.getElem?_drop, Nat.add_zero]
  exact hx
theorem mapTo_set {α : Type} (f : α → α) (l : List α) {k : Nat} {x : α} (hx : l[k]? = some x) : (mapTo f l k).set k (f x) = mapTo f l (k + 1) := by
  have hl := (List.getElem?_eq_some_iff.1 hx).1
  unfold mapTo
  rw [List.set_append_right _ _ (by simp; omega)]
  have e : k - ((l.take k).map f).length = 0 := by simp; omega
  rw [e, List.drop_eq_getElem_cons hl, List.set_cons_zero, List.take_add_one, hx, List.map_append]
  simp
end Go.Proofs.Ytejfpajbkgfiaaa
/-
  Scales and scaled transports: the program's part.
-/
namespace Go.Proofs.Ytejfpajbkgfiaaa
open Go.ChangeShapes Go.WideShapes Go.ChangeAt Go.RowKit

theorem areScales_any {A : Option Addr} {n c : Nat} (sc : List Int) (w : World) (hL : SlAt w 1 A n c (ints sc)) :
    Calls Try.prog 95 #[.slice A n c] w fun e w' => e = .returned (.bool (scOk sc)) ∧ w = w' := by
  have hlen := hL.sl.ilen
  have Hlen := Lib.hid hlen
  have hm := hL.small
  have HL := Lib.hid hL
  clear hL hlen
  by_cases h : n = 4
  · subst h
    go_enter Try.func95, Try.ntmps95
    go_wp2_with fail
    refine (allWithin_any sc _ _ _ HL.out).mono ?_
    rintro e w1 ⟨rfl, rfl⟩
    go_wp2_with fail
    go_ret
    exact ⟨ret_bool (by simp [scOk, Hlen.out]), rfl⟩
  · have t : ((n : Int) == 4) = false := by simp; omega
    go_enter Try.func95, Try.ntmps95
    go_wp2_with fail
    go_ret
    exact ⟨ret_bool (by simp [scOk, Hlen.out, h]), rfl⟩
set_option maxRecDepth 100000 in
theorem scaledTransports_any {A A4 : Option Addr} {n c n4 c4 : Nat} (nn : Int) (l : List GTr) (sc : List Int) (w : World) (hL : SlAt w 4 A n c (l.flatMap GTr.cells)) (hS : SlAt w 1 A4 n4 c4 (ints sc)) (hok : trsOk nn l = true) (hsc : scOk sc = true) :
    Calls Try.prog 96 #[.slice A n c, .slice A4 n4 c4] w fun e w' => ∃ A' c', e = .returned (.slice A' n c') ∧ w'.ownsRow w.heap.size 39 4 (.slice A' n c') n ((scaled sc l).flatMap GTr.cells) ∧ Gr w w' := by
  have hlen := hL.sl.len GTr.cells_len (by omega)
  have hlen4 := hS.sl.ilen
  have Hlen := Lib.hid hlen
  have Hlen4 := Lib.hid hlen4
  have hm := hL.small
  have HL := Lib.hid hL
  have HS := Lib.hid hS
  have Hok := Lib.hid hok
  have Hsc := Lib.hid hsc
  clear hL hS hok hsc hlen hlen4
  go_enter Try.func96, Try.ntmps96
  go_wp2_with fail
  refine (cloneTr_any (l.flatMap GTr.cells) _ hm HL.out.sl (flat_one GTr.one l)).mono ?_
  rintro e w1 ⟨A', c', rfl, hown, hg1⟩
  have Hown := Lib.hid hown
  clear hown
  go_wp2_with fail
  go_loopw [11] (fun i wr => ∃ k : Nat, k ≤ n ∧ i = .int .i64 k ∧ wr.ownsRow w.heap.size 39 4 (.slice A' n c') n ((mapTo (scaleOne sc) l k).flatMap GTr.cells) ∧ Gr w wr) (fun i _ => n - (intOf i).toNat)
  case atStart => exact ⟨0, Nat.zero_le _, rfl, by rw [mapTo_zero]; exact Hown.out, hg1⟩
  case round =>
    obtain ⟨k, hk, rfl, hownr, hgr⟩ := hrel
    by_cases hlt : k < n
    · obtain ⟨x, hx⟩ : ∃ x, l[k]? = some x := ⟨_, List.getElem?_eq_getElem (by have := Hlen.out; omega)⟩
      obtain ⟨_, _, _, p4, p5⟩ := trOk_all ((trsOk_all Hok.out).2 k x hx)
      obtain ⟨q1, q2⟩ := scOk_all Hsc.out
      have hn4 : n4 = 4 := by have := Hlen4.out; omega
      subst hn4
      have hgs := get_of_lt (l := sc) (k := x.cls.toNat) (by omega)
      obtain ⟨s, hs⟩ : ∃ s, s = sc.getD x.cls.toNat 0 := ⟨_, rfl⟩
      rw [← hs] at hgs
      obtain ⟨b4, o4, rfl, hb4, r0⟩ := (HS.out.sl.gr hgr).int hgs
      have hsb := q2 _ _ hgs
      obtain ⟨g, rfl, hgb, hgl⟩ := own_form hownr (by omega)
      obtain ⟨d0, d1, d2, d3, f0, f1, f2, f3⟩ := own_tr hownr (mapTo_get (scaleOne sc) l hx)
      have R := own_set_tr_amount hownr (scaleAmt sc x) (mapTo_get (scaleOne sc) l hx)
      have eR : (mapTo (scaleOne sc) l k).set k ⟨x.entry, x.exit, scaleAmt sc x, x.cls⟩ = mapTo (scaleOne sc) l (k + 1) := mapTo_set (scaleOne sc) l hx
      rw [eR] at R
      have HR := Lib.hid R
      have hp := mul_bnd p4 hsb
      obtain ⟨p, hpe⟩ : ∃ p, p = x.amount * s := ⟨_, rfl⟩
      rw [← hpe] at hp
      have hae : p / 100 = scaleAmt sc x := by rw [hpe, hs]; rfl
      have Hae := Lib.hid hae
      have s1 : 0 ≤ x.cls := p5.1
      have s2 : x.cls < 4 := by omega
      have t1 : (k : Int) < (n : Int) := by omega
      have t0 : (0 : Int) ≤ (k : Int) := by omega
      have Hpe := Lib.hid hpe
      clear hx hownr R eR hs hgs hae hpe p5 d0 d1 f0 f1 f3 q2
      go_wp2_with fail
      have hw1 : IntKind.i64.wrap (x.amount * s) = p := by rw [IntWalk.i64_in _ (by rw [← Hpe.out]; omega), Hpe.out]
      have hw2 : IntKind.i64.wrap (p.tdiv 100) = p / 100 := by rw [Int.tdiv_eq_ediv_of_nonneg hp.1]; exact IntWalk.i64_in _ (by omega)
      refine wp_region_last (fun w' => w' = wr.drew) (fun w' => w' = (wr.setCell ⟨g, k * 4 + 2, none⟩ (.int .i64 (p / 100))).drew) (by kernel_rfl) (by kernel_rfl) (by decide) rfl ?_
      repeat (first
            | ((with_reducible refine wpText_skip ?_ ?_)
               · rfl
               simp only [Act.put, List.setIfInBounds_toArray, List.set_cons_zero, List.set_cons_succ])
            | ((with_reducible refine wpText_yield (v := ?_) ?_ ?_ ?_)
               rotate_left
               · rfl
               · intro W hW; first | (go_simp; done) | (go_simp; with_reducible rfl)
               simp only [Act.put, List.setIfInBounds_toArray, List.set_cons_zero, List.set_cons_succ])
            | ((with_reducible refine wpText_yield1 (v := ?_) ?_ ?_ ?_)
               rotate_left
               · rfl
               · intro W hW; first | (go_simp; done) | (go_simp; with_reducible rfl)
               simp only [Act.put, List.setIfInBounds_toArray, List.set_cons_zero, List.set_cons_succ]))
      (first
            | ((with_reducible refine wpText_do1 undef ?_ ?_ ?_)
               · rfl
               · intro W hW K hK
                 subst hW
                 go_simp
                 exact hK _ rfl
               simp only [Act.put]))
      rintro w3 rfl
      clear hw1 hw2
      go_wp2_with fail
      go_roundw
      case rel =>
        refine ⟨k + 1, by omega, by go_num, ?_, ?_⟩
        · rw [Hae.out]; exact HR.out.1.drew
        · rw [Hae.out]; exact (hgr.grown HR.out.2 (fun _ e => by injection e with e; omega)).drew
      case measure => simp [intOf]; omega
    · obtain rfl : k = n := by omega
      have Hownr := Lib.hid hownr
      clear hownr
      go_wp2_with fail
      go_ret
      refine ⟨_, _, rfl, ?_, hgr⟩
      have h := Hownr.out
      rw [mapTo_full _ _ _ (by rw [Hlen.out]; exact Nat.le_refl _)] at h
      exact h
end Go.Proofs.Ytejfpajbkgfiaaa
/-
  Scales and scaled transports: the book's part.
-/
namespace Go.Proofs.Ytejfpajbkgfiaaa
open Go.ChangeShapes Go.WideShapes Go.ChangeAt Go.RowKit

theorem l24Scales_any {A : Option Addr} {m c : Nat} (zs : List Int) (w : World) (hL : SlAt w 1 A m c (ints zs)) :
    Calls Try.prog 97 #[.slice A m c] w fun e w' => e = .returned (.bool (scOk zs)) ∧ w = w' := by
  have hlen := hL.sl.ilen
  have Hlen := Lib.hid hlen
  have hm := hL.small
  have HL := Lib.hid hL
  clear hL hlen
  go_enter Try.func97, Try.ntmps97
  go_wp2_with fail
  go_loop [3] (fun i => ∃ k : Nat, k ≤ m ∧ i = .int .i64 k ∧ ∀ q, q < k → ∀ y, zs[q]? = some y → inB 0 y 100 = true) (fun i => m - (intOf i).toNat)
  case atStart => exact ⟨0, Nat.zero_le _, rfl, fun j h => absurd h (by omega)⟩
  case round =>
    obtain ⟨k, hk, rfl, hno⟩ := hrel
    have Hno := Lib.hid hno
    clear hno
    by_cases hlt : k < m
    · obtain ⟨x, hx⟩ : ∃ x, zs[k]? = some x := ⟨_, List.getElem?_eq_getElem (by have := Hlen.out; omega)⟩
      obtain ⟨b, o, rfl, hb, e0⟩ := HL.out.sl.int hx
      have Hx := Lib.hid hx
      clear hx
      go_wp2_with fail
      refine (l01In_any _ _ _ _).mono ?_
      rintro e w' ⟨rfl, rfl⟩
      cases hok : inB 0 x 100 with
      | true =>
        have Hokx := Lib.hid hok
        go_wp2_with fail
        go_round
        case rel => exact ⟨k + 1, by omega, by go_num, all_step (p := fun z => inB 0 z 100) Hx.out Hokx.out Hno.out⟩
        case measure => simp [intOf]; omega
      | false =>
        have Hokx := Lib.hid hok
        go_wp2_with fail
        go_ret
        refine ⟨ret_bool ?_, rfl⟩
        have := all_not (p := fun z => inB 0 z 100) Hx.out Hokx.out
        simp only [scOk, this, Bool.and_false]
    · obtain rfl : k = m := by omega
      have hall := all_of (p := fun z => inB 0 z 100) (l := zs) (by rw [Hlen.out]; exact Hno.out)
      have Hall := Lib.hid hall
      clear hall
      go_wp2_with fail
      go_ret
      refine ⟨ret_bool ?_, rfl⟩
      rw [scOk, Hall.out, Hlen.out, Bool.and_true]
      by_cases e : k = 4 <;> simp [e] <;> omega

def onlyScales (q : Int) : List Int := (List.range 4).map fun (k : Nat) => if (k : Int) < q then 100 else 0
theorem onlyScales_ok (q : Int) : scOk (onlyScales q) = true := by
  simp only [scOk, onlyScales, List.length_map, List.length_range, decide_true, Bool.true_and, List.all_map, List.all_eq_true]
  intro k _
  simp only [Function.comp]
  split <;> decide

theorem own_base_le {w : World} {base : Nat} {e : TypeId} {size n k : Nat} {v : Value} {xs : List Value} (h : w.ownsRow base e size v n xs) (hk : v.ownBlock = some k) : base ≤ k := by
  rcases h.2 with ⟨hv, _⟩ | ⟨g, cap, cur, hv, hb, _⟩
  · rw [hv] at hk; simp [Value.ownBlock] at hk
  · rw [hv] at hk; simp [Value.ownBlock] at hk; omega
theorem own_block_lt {w : World} {base : Nat} {e : TypeId} {size n k : Nat} {v : Value} {xs : List Value} (h : w.ownsRow base e size v n xs) (hk : v.ownBlock = some k) : k < w.heap.size := by
  rcases h.2 with ⟨hv, _⟩ | ⟨g, cap, cur, hv, hb, hg, _⟩
  · rw [hv] at hk; simp [Value.ownBlock] at hk
  · rw [hv] at hk
    simp [Value.ownBlock] at hk
    subst hk
    rcases Nat.lt_or_ge g w.heap.size with hlt | hge
    · exact hlt
    · rw [Array.getElem?_eq_none hge] at hg; cases hg
theorem ints_snoc (l : List Int) (x : Int) : ints (l ++ [x]) = ints l ++ [.int .i64 x] := by simp [ints]
theorem flat_snoc {α : Type} (f : α → List Value) (l : List α) (x : α) : (l ++ [x]).flatMap f = l.flatMap f ++ f x := by simp
theorem map_take_succ {α β : Type} (f : α → β) (l : List α) {k : Nat} {x : α} (hx : l[k]? = some x) : (l.take (k + 1)).map f = (l.take k).map f ++ [f x] := by
  rw [List.take_add_one, hx]; simp

theorem l24Only_any (q : Int) (w : World) :
    Calls Try.prog 93 #[.int .i64 q] w fun e w' => ∃ A c, e = .returned (.slice A 4 c) ∧ w'.ownsRow w.heap.size 2 1 (.slice A 4 c) 4 (ints (onlyScales q)) ∧ Gr w w' := by
  obtain ⟨i0, hi0, hz0, hz1, hz2⟩ := info_parts infoInt64
  go_enter Try.func93, Try.ntmps93
  go_wp2_with fail
  go_loopw [3, 4] (fun o i wr => ∃ k : Nat, k ≤ 4 ∧ i = .int .i64 k ∧ (∃ A c, o = .slice A k c) ∧ wr.ownsRow w.heap.size 2 1 o k (ints ((onlyScales q).take k)) ∧ Gr w wr) (fun _ i _ => 4 - (intOf i).toNat)
  case atStart => exact ⟨0, by omega, rfl, ⟨_, _, rfl⟩, World.ownsRow_lit w #[] 0 (Nat.le_refl _) (by unfold maxLen; omega) rfl, (Gr.refl _).alloc _⟩
  case round =>
    obtain ⟨k, hk, rfl, ⟨A, c, rfl⟩, hownr, hgr⟩ := hrel
    have Hown := Lib.hid hownr
    clear hownr
    by_cases hlt : k < 4
    · have t1 : (k : Int) < 4 := by omega
      have hb := hgr.size
      obtain ⟨s, hs⟩ : ∃ s : Int, s = if (k : Int) < q then 100 else 0 := ⟨_, rfl⟩
      have hn : (onlyScales q)[k]? = some s := by simp [onlyScales, hlt, hs]
      have hstep : (onlyScales q).take (k + 1) = (onlyScales q).take k ++ [s] := by rw [List.take_add_one, hn]; rfl
      have Hs := Lib.hid hs
      have Hst := Lib.hid hstep
      clear hs hn hstep
      by_cases hc : (k : Int) < q
      all_goals
        have hsv := Hs.out
        first | rw [if_pos hc] at hsv | rw [if_neg hc] at hsv
        subst hsv
        go_wp2_with (at_builtin; refine wpList_append_own _ rfl _ _ _ rfl w.heap.size 2 i0 _ 1 8 Try.underlying33 hi0 hz0 hz1 hz2 rfl (by omega) _ k _ rfl (Hown.out.alloc _) ⟨wr.heap.size, 0, none⟩ 1 1 [.int .i64 _] rfl rfl (World.news_of_block (cs := #[.int .i64 _]) (t := 2) (fr := (0, 0)) (heap_alloc_new wr _)) (by simp [Value.oneCell']) (by unfold maxLen; omega) (by omega) (by simp; omega) ?_; intro v' w1 hown hg _)
        have hsh := own_shape hown
        obtain ⟨A', c', rfl⟩ := hsh
        have Ho := Lib.hid hown
        clear hown
        go_wp2_with fail
        go_roundw
        case rel =>
          refine ⟨k + 1, by omega, by go_num, ⟨_, _, rfl⟩, ?_, ?_⟩
          · rw [Hst.out, ints_snoc]; exact Ho.out
          · exact (hgr.alloc _).grown hg (fun j hj => own_base_le Hown.out hj)
        case measure => simp [intOf]; omega
    · obtain rfl : k = 4 := by omega
      go_wp2_with fail
      go_ret
      exact ⟨_, _, rfl, Hown.out, hgr⟩
set_option maxHeartbeats 3200000 in
set_option maxRecDepth 100000 in
theorem l24Scale_any {A A4 : Option Addr} {n c n4 c4 : Nat} (nn : Int) (l : List GTr) (sc : List Int) (w : World) (hL : SlAt w 4 A n c (l.flatMap GTr.cells)) (hS : SlAt w 1 A4 n4 c4 (ints sc)) (hok : trsOk nn l = true) (hsc : scOk sc = true) :
    Calls Try.prog 92 #[.slice A n c, .slice A4 n4 c4] w fun e w' => ∃ A' c', e = .returned (.slice A' n c') ∧ w'.ownsRow w.heap.size 39 4 (.slice A' n c') n ((scaled sc l).flatMap GTr.cells) ∧ Gr w w' := by
  obtain ⟨i0, hi0, hz0, hz1, hz2⟩ := info_parts infoTransport
  have hlen := hL.sl.len GTr.cells_len (by omega)
  have hlen4 := hS.sl.ilen
  have Hlen := Lib.hid hlen
  have Hlen4 := Lib.hid hlen4
  have hm := hL.small
  have HL := Lib.hid hL
  have HS := Lib.hid hS
  have Hok := Lib.hid hok
  have Hsc := Lib.hid hsc
  clear hL hS hok hsc hlen hlen4
  go_enter Try.func92, Try.ntmps92
  go_wp2_with fail
  go_loopw [5, 6] (fun o i wr => ∃ k : Nat, k ≤ n ∧ i = .int .i64 k ∧ (∃ A c, o = .slice A k c) ∧ wr.ownsRow w.heap.size 39 4 o k (((l.take k).map (scaleOne sc)).flatMap GTr.cells) ∧ Gr w wr) (fun _ i _ => n - (intOf i).toNat)
  case atStart => exact ⟨0, Nat.zero_le _, rfl, ⟨_, _, rfl⟩, World.ownsRow_lit w #[] 0 (Nat.le_refl _) (by unfold maxLen; omega) rfl, (Gr.refl _).alloc _⟩
  case round =>
    obtain ⟨k, hk, rfl, ⟨A1, c1, rfl⟩, hownr, hgr⟩ := hrel
    have Hown := Lib.hid hownr
    clear hownr
    by_cases hlt : k < n
    · obtain ⟨x, hx⟩ : ∃ x, l[k]? = some x := ⟨_, List.getElem?_eq_getElem (by have := Hlen.out; omega)⟩
      obtain ⟨_, _, _, p4, p5⟩ := trOk_all ((trsOk_all Hok.out).2 k x hx)
      obtain ⟨q1, q2⟩ := scOk_all Hsc.out
      have hn4 : n4 = 4 := by have := Hlen4.out; omega
      subst hn4
      have hgs := get_of_lt (l := sc) (k := x.cls.toNat) (by omega)
      obtain ⟨s, hs⟩ : ∃ s, s = sc.getD x.cls.toNat 0 := ⟨_, rfl⟩
      rw [← hs] at hgs
      obtain ⟨b4, o4, rfl, hb4, r0⟩ := HS.out.sl.int hgs
      replace r0 := hgr.has r0
      have hsb := q2 _ _ hgs
      obtain ⟨b, o, rfl, hb, d0, d1, d2, d3⟩ := (HL.out.sl.gr hgr).tr hx
      have hbase := hgr.size
      have hstep := map_take_succ (scaleOne sc) l hx
      have Hst := Lib.hid hstep
      have hp := mul_bnd p4 hsb
      obtain ⟨p, hpe⟩ : ∃ p, p = x.amount * s := ⟨_, rfl⟩
      rw [← hpe] at hp
      have hae : p / 100 = scaleAmt sc x := by rw [hpe, hs]; rfl
      have Hae := Lib.hid hae
      have s1 : 0 ≤ x.cls := p5.1
      have s2 : x.cls < 4 := by omega
      have t1 : (k : Int) < (n : Int) := by omega
      have t0 : (0 : Int) ≤ (k : Int) := by omega
      have Hpe := Lib.hid hpe
      clear hx hs hgs hae hpe p5 q2 hstep
      go_wp2_with fail
      generalize hw1 : wr.alloc _ = w1
      have hN : w1.heap.size = wr.heap.size + 1 := by rw [← hw1]; simp
      have hnew : ∀ o : Obj, (w1.alloc o).heap[wr.heap.size + 1]? = some o := fun o => by rw [← hN]; exact heap_alloc_new w1 o
      have z0 : w1.cell? ⟨wr.heap.size, 0, none⟩ = some (.int .i64 x.entry) := by rw [← hw1]; simp [go_sem]
      have z1 : w1.cell? ⟨wr.heap.size, 1, none⟩ = some (.int .i64 x.exit) := by rw [← hw1]; simp [go_sem]
      have z2 : w1.cell? ⟨wr.heap.size, 2, none⟩ = some (.int .i64 x.amount) := by rw [← hw1]; simp [go_sem]
      have z3 : w1.cell? ⟨wr.heap.size, 3, none⟩ = some (.int .i64 x.cls) := by rw [← hw1]; simp [go_sem]
      have hgr1 : Gr wr w1 := by rw [← hw1]; exact (Gr.refl _).alloc _
      have z4 := hgr1.has r0
      have hgw : Gr w w1 := hgr.trans hgr1
      have hown := own_gr Hown.out hgr1
      have Ho1 := Lib.hid hown
      have hfar : ∀ j, (Value.slice A1 k c1).ownBlock = some j → j ≠ wr.heap.size ∧ j ≠ b4 := by
        intro j hj
        have e1 := own_base_le Hown.out hj
        have e2 := own_block_lt Hown.out hj
        omega
      clear hown hw1 d0 d1 d2 d3 r0
      have hw1 : IntKind.i64.wrap (x.amount * s) = p := by rw [IntWalk.i64_in _ (by rw [← Hpe.out]; omega), Hpe.out]
      have hw2 : IntKind.i64.wrap (p.tdiv 100) = p / 100 := by rw [Int.tdiv_eq_ediv_of_nonneg hp.1]; exact IntWalk.i64_in _ (by omega)
      go_region_held3 (fun w' => w'.cell? ⟨wr.heap.size, 0, none⟩ = some (.int .i64 x.entry) ∧ w'.cell? ⟨wr.heap.size, 1, none⟩ = some (.int .i64 x.exit) ∧ w'.cell? ⟨wr.heap.size, 2, none⟩ = some (.int .i64 x.amount) ∧ w'.cell? ⟨wr.heap.size, 3, none⟩ = some (.int .i64 x.cls) ∧ w'.cell? ⟨b4, o4 + x.cls.toNat, none⟩ = some (.int .i64 s))
        (first
          | go_keep
          | (go_split_ands
             refine ⟨?_, ?_, ?_, ?_, ?_⟩
             · (rw [hgrow.cell_far _ (by simp; omega) (fun e => (hfar _ e.symm).1 rfl)]; assumption)
             · (rw [hgrow.cell_far _ (by simp; omega) (fun e => (hfar _ e.symm).1 rfl)]; assumption)
             · (rw [hgrow.cell_far _ (by simp; omega) (fun e => (hfar _ e.symm).1 rfl)]; assumption)
             · (rw [hgrow.cell_far _ (by simp; omega) (fun e => (hfar _ e.symm).1 rfl)]; assumption)
             · (rw [hgrow.cell_far _ (by simp; omega) (fun e => (hfar _ e.symm).2 rfl)]; assumption)))
        ((refine step_append_lies _ (by rfl) _ _ _ (by rfl) w.heap.size 39 i0 _ 4 32 Try.underlying28 hi0 hz0 hz1 hz2 rfl (by omega) _ k _ (by rfl) ((Ho1.out.alloc _).drew) ⟨wr.heap.size + 1, 0, none⟩ 1 1 [.int .i64 x.entry, .int .i64 x.exit, .int .i64 (p / 100), .int .i64 x.cls] (by rfl) (by rfl) (World.news_of_block (cs := #[.int .i64 x.entry, .int .i64 x.exit, .int .i64 (p / 100), .int .i64 x.cls]) (t := 39) (fr := (0, 0)) (hnew _)) (by simp [Value.oneCell']) (by omega) (by unfold maxLen; omega) (by omega) (by simp; omega) (wr.heap.size + 1 + 1) (by simp [hN]) ?_; intro gg cap w2 hown1 hgrow hat hlt2))
      clear hw1 hw2 hfar
      have Ho2 := Lib.hid hown1
      clear hown1
      go_wp2_with fail
      go_roundw
      case rel =>
        refine ⟨k + 1, by omega, by go_num, ⟨_, _, rfl⟩, ?_, ?_⟩
        · rw [Hst.out, flat_snoc]; rw [Hae.out] at Ho2; exact Ho2.out
        · exact ((hgw.alloc _).drew).grown hgrow (fun j hj => own_base_le Hown.out hj)
      case measure => simp [intOf]; omega
    · obtain rfl : k = n := by omega
      go_wp2_with fail
      go_ret
      refine ⟨_, _, rfl, ?_, hgr⟩
      have h := Hown.out
      rw [List.take_of_length_le (by rw [Hlen.out]; exact Nat.le_refl _)] at h
      exact h
end Go.Proofs.Ytejfpajbkgfiaaa
/-
  ScaleTransports and OnlyClasses: the contracts.
-/
namespace Go.Proofs.Ytejfpajbkgfiaaa
open Go.ChangeShapes Go.WideShapes Go.ChangeAt Go.RowKit

def scCode (n : GNet) (l : List GTr) (sc : List Int) : Int := if trCode n l = 0 then (if scOk sc then 0 else 2) else trCode n l
def scRes (n : GNet) (l : List GTr) (sc : List Int) : List GTr := if scCode n l sc = 0 then scaled sc l else []
def onCode (n : GNet) (l : List GTr) (q : Int) : Int := if trCode n l = 0 then (if inB 0 q 4 then 0 else 2) else trCode n l
def onRes (n : GNet) (l : List GTr) (q : Int) : List GTr := if onCode n l q = 0 then scaled (onlyScales q) l else []
def onlyOne (q : Int) (x : GTr) : GTr := ⟨x.entry, x.exit, if q ≤ x.cls then 0 else x.amount, x.cls⟩
theorem only_scaled {nn q : Int} {l : List GTr} (h : trsOk nn l = true) : l.map (onlyOne q) = scaled (onlyScales q) l := by
  unfold scaled
  refine List.map_congr_left fun x hx => ?_
  obtain ⟨k, hk⟩ := List.mem_iff_getElem?.1 hx
  obtain ⟨_, _, _, p4, p5⟩ := trOk_all ((trsOk_all h).2 k x hk)
  unfold onlyOne scaleOne scaleAmt
  have e : (onlyScales q).getD x.cls.toNat 0 = if x.cls < q then 100 else 0 := by
    have h4 : x.cls.toNat < 4 := by omega
    have hc : ((x.cls.toNat : Nat) : Int) = x.cls := Int.toNat_of_nonneg p5.1
    simp [onlyScales, h4, hc]
  rw [e]
  by_cases hc : x.cls < q
  · rw [if_neg (by omega), if_pos hc, Int.mul_ediv_cancel _ (by decide)]
  · rw [if_pos (by omega), if_neg hc]; simp

theorem set_get_same {α : Type} {l : List α} {k : Nat} {x : α} (h : l[k]? = some x) : l.set k x = l := by
  apply List.ext_getElem?
  intro j
  rw [List.getElem?_set]
  by_cases e : k = j
  · subst e
    rw [if_pos rfl, if_pos (List.getElem?_eq_some_iff.1 h).1, h]
  · rw [if_neg e]
set_option maxRecDepth 100000 in
theorem ScaleTransports_any {A1 A2 A3 A4 : Option Addr} {n1 c1 n2 c2 n3 c3 n4 c4 : Nat} (n : GNet) (l : List GTr) (sc : List Int) (w : World) (hA : NetAt w A1 n1 c1 A2 n2 c2 n) (hL : SlAt w 4 A3 n3 c3 (l.flatMap GTr.cells)) (hS : SlAt w 1 A4 n4 c4 (ints sc)) :
    Calls Try.prog 25 #[.agg #[.slice A1 n1 c1, .slice A2 n2 c2], .slice A3 n3 c3, .slice A4 n4 c4] w fun e w' => ∃ A m c, e = .returned (.tuple #[.slice A m c, .int .i64 (scCode n l sc)]) ∧ m ≤ 1048576 ∧ w'.ownsRow w.heap.size 39 4 (.slice A m c) m ((scRes n l sc).flatMap GTr.cells) ∧ Gr w w' := by
  have HA := Lib.hid hA
  have HL := Lib.hid hL
  have hm3 := hL.small
  have HS := Lib.hid hS
  clear hA hL hS
  go_enter Try.func25, Try.ntmps25
  go_wp2_with fail
  refine (checkTransports_any _ _ _ _ _ _ _ _ _ n l _ (HA.out.gr ((Gr.refl _).alloc _)) (HL.out.gr ((Gr.refl _).alloc _)).sl HL.out.small).mono ?_
  rintro e w1 ⟨rfl, hg1⟩
  have hg0 : Gr w w1 := ((Gr.refl _).alloc _).trans hg1
  by_cases hc : trCode n l = 0
  · have Hc := Lib.hid hc
    have tb : (trCode n l != 0) = false := by simp [hc]
    have tc : (trCode n l == 0) = true := by simp [hc]
    clear hc
    go_wp2_with fail
    refine (areScales_any sc _ (HS.out.gr hg0)).mono ?_
    rintro e w2 ⟨rfl, rfl⟩
    cases hs : scOk sc with
    | true =>
      have Hs := Lib.hid hs
      have e0 : scCode n l sc = 0 := by rw [scCode, if_pos Hc.out, if_pos hs]
      have He := Lib.hid e0
      clear hs e0
      go_wp2_with fail
      refine (scaledTransports_any _ l sc _ (HL.out.gr hg0) (HS.out.gr hg0) (trCode_zero Hc.out).2 Hs.out).mono ?_
      rintro e w3 ⟨A, c, rfl, ho, hg3⟩
      have Ho := Lib.hid ho
      clear ho
      go_wp2_with fail
      go_ret2
      refine ⟨A, n3, c, by rw [He.out]; rfl, hm3, ?_, hg0.trans hg3⟩
      rw [scRes, if_pos He.out]
      exact own_base Ho.out hg0.size
    | false =>
      have e0 : scCode n l sc = 2 := by rw [scCode, if_pos Hc.out, if_neg (by simp [hs])]
      have He := Lib.hid e0
      clear hs e0
      go_wp2_with fail
      go_ret2
      refine ⟨none, 0, 0, by rw [He.out]; rfl, by omega, ?_, hg0⟩
      rw [scRes, if_neg (by rw [He.out]; decide)]
      exact World.ownsRow_nil _ _ _ _
  · have Hc := Lib.hid hc
    have tb : (trCode n l != 0) = true := by simp [hc]
    have tc : (trCode n l == 0) = false := by simp [hc]
    clear hc
    go_wp2_with fail
    go_ret2
    have e : scCode n l sc = trCode n l := by rw [scCode, if_neg Hc.out]
    refine ⟨none, 0, 0, by rw [e]; rfl, by omega, ?_, hg0⟩
    rw [scRes, if_neg (by rw [e]; exact Hc.out)]
    exact World.ownsRow_nil _ _ _ _
set_option maxRecDepth 100000 in
theorem OnlyClasses_any {A1 A2 A3 : Option Addr} {n1 c1 n2 c2 n3 c3 : Nat} (n : GNet) (l : List GTr) (q : Int) (w : World) (hA : NetAt w A1 n1 c1 A2 n2 c2 n) (hL : SlAt w 4 A3 n3 c3 (l.flatMap GTr.cells)) (_wf : (Lit.int .i64 q).wf = true) :
    Calls Try.prog 17 #[.agg #[.slice A1 n1 c1, .slice A2 n2 c2], .slice A3 n3 c3, .int .i64 q] w fun e w' => ∃ A m c, e = .returned (.tuple #[.slice A m c, .int .i64 (onCode n l q)]) ∧ m ≤ 1048576 ∧ w'.ownsRow w.heap.size 39 4 (.slice A m c) m ((onRes n l q).flatMap GTr.cells) ∧ Gr w w' := by
  have HA := Lib.hid hA
  have HL := Lib.hid hL
  have hm3 := hL.small
  clear hA hL
  go_enter Try.func17, Try.ntmps17
  go_wp2_with fail
  refine (checkTransports_any _ _ _ _ _ _ _ _ _ n l _ (HA.out.gr ((Gr.refl _).alloc _)) (HL.out.gr ((Gr.refl _).alloc _)).sl HL.out.small).mono ?_
  rintro e w1 ⟨rfl, hg1⟩
  have hg0 : Gr w w1 := ((Gr.refl _).alloc _).trans hg1
  by_cases hc : trCode n l = 0
  · have Hc := Lib.hid hc
    have tb : (trCode n l != 0) = false := by simp [hc]
    have tc : (trCode n l == 0) = true := by simp [hc]
    clear hc
    go_wp2_with fail
    refine (within_any _ _ _ _).mono ?_
    rintro e w2 ⟨rfl, rfl⟩
    cases hs : inB 0 q 4 with
    | true =>
      have Hs := Lib.hid hs
      have e0 : onCode n l q = 0 := by rw [onCode, if_pos Hc.out, if_pos hs]
      have He := Lib.hid e0
      clear hs e0
      go_wp2_with fail
      refine (cloneTr_any (l.flatMap GTr.cells) _ hm3 (HL.out.gr hg0).sl (flat_one GTr.one l)).mono ?_
      rintro e w2 ⟨A', c', rfl, hown, hg2⟩
      have Hown := Lib.hid hown
      clear hown
      have hlen := HL.out.sl.len GTr.cells_len (by omega)
      have Hlen := Lib.hid hlen
      clear hlen
      go_wp2_with fail
      go_loopw [24] (fun i wr => ∃ k : Nat, k ≤ n3 ∧ i = .int .i64 k ∧ wr.ownsRow w1.heap.size 39 4 (.slice A' n3 c') n3 ((mapTo (onlyOne q) l k).flatMap GTr.cells) ∧ Gr w1 wr) (fun i _ => n3 - (intOf i).toNat)
      case atStart => exact ⟨0, Nat.zero_le _, rfl, by rw [mapTo_zero]; exact Hown.out, hg2⟩
      case round =>
        obtain ⟨k, hk, rfl, hownr, hgr⟩ := hrel
        by_cases hlt : k < n3
        · obtain ⟨x, hx⟩ : ∃ x, l[k]? = some x := ⟨_, List.getElem?_eq_getElem (by have := Hlen.out; omega)⟩
          obtain ⟨g, rfl, hgb, hgl⟩ := own_form hownr (by omega)
          obtain ⟨d0, d1, d2, d3, f0, f1, f2, f3⟩ := own_tr hownr (mapTo_get (onlyOne q) l hx)
          have t1 : (k : Int) < (n3 : Int) := by omega
          have t0 : (0 : Int) ≤ (k : Int) := by omega
          by_cases hcl : q ≤ x.cls
          · have R := own_set_tr_amount hownr 0 (mapTo_get (onlyOne q) l hx)
            have eR : (mapTo (onlyOne q) l k).set k ⟨x.entry, x.exit, 0, x.cls⟩ = mapTo (onlyOne q) l (k + 1) := by
              rw [← mapTo_set (onlyOne q) l hx]; simp [onlyOne, hcl]
            rw [eR] at R
            have HR := Lib.hid R
            clear hx hownr R eR d0 d1 f0 f1
            go_wp2_with fail
            go_roundw
            case rel => exact ⟨k + 1, by omega, by go_num, HR.out.1, hgr.grown HR.out.2 (fun _ e => by injection e with e; omega)⟩
            case measure => simp [intOf]; omega
          · have eR : mapTo (onlyOne q) l (k + 1) = mapTo (onlyOne q) l k := by
              rw [← mapTo_set (onlyOne q) l hx]
              have : onlyOne q x = x := by simp [onlyOne, hcl]
              rw [this]
              exact set_get_same (mapTo_get (onlyOne q) l hx)
            have HR := Lib.hid hownr
            have HeR := Lib.hid eR
            clear hx hownr eR d0 d1 f0 f1
            go_wp2_with fail
            go_roundw
            case rel => exact ⟨k + 1, by omega, by go_num, by rw [HeR.out]; exact HR.out, hgr⟩
            case measure => simp [intOf]; omega
        · obtain rfl : k = n3 := by omega
          have Hownr := Lib.hid hownr
          clear hownr
          go_wp2_with fail
          go_ret2
          refine ⟨_, _, _, by rw [He.out]; rfl, hm3, ?_, hg0.trans hgr⟩
          have h := Hownr.out
          rw [mapTo_full _ _ _ (by rw [Hlen.out]; exact Nat.le_refl _), only_scaled (trCode_zero Hc.out).2] at h
          rw [onRes, if_pos He.out]
          exact own_base h hg0.size
    | false =>
      have e0 : onCode n l q = 2 := by rw [onCode, if_pos Hc.out, if_neg (by simp [hs])]
      have He := Lib.hid e0
      clear hs e0
      go_wp2_with fail
      go_ret2
      refine ⟨none, 0, 0, by rw [He.out]; rfl, by omega, ?_, hg0⟩
      rw [onRes, if_neg (by rw [He.out]; decide)]
      exact World.ownsRow_nil _ _ _ _
  · have Hc := Lib.hid hc
    have tb : (trCode n l != 0) = true := by simp [hc]
    have tc : (trCode n l == 0) = false := by simp [hc]
    clear hc
    go_wp2_with fail
    go_ret2
    have e : onCode n l q = trCode n l := by rw [onCode, if_neg Hc.out]
    refine ⟨none, 0, 0, by rw [e]; rfl, by omega, ?_, hg0⟩
    rw [onRes, if_neg (by rw [e]; exact Hc.out)]
    exact World.ownsRow_nil _ _ _ _
set_option maxRecDepth 100000 in
theorem spScaleTransports_any {A1 A2 A3 A4 : Option Addr} {n1 c1 n2 c2 n3 c3 n4 c4 : Nat} (n : GNet) (l : List GTr) (sc : List Int) (w : World) (hA : NetAt w A1 n1 c1 A2 n2 c2 n) (hL : SlAt w 4 A3 n3 c3 (l.flatMap GTr.cells)) (hS : SlAt w 1 A4 n4 c4 (ints sc)) :
    Calls Try.prog 26 #[.agg #[.slice A1 n1 c1, .slice A2 n2 c2], .slice A3 n3 c3, .slice A4 n4 c4] w fun e w' => ∃ A m c, e = .returned (.tuple #[.slice A m c, .int .i64 (scCode n l sc)]) ∧ m ≤ 1048576 ∧ w'.ownsRow w.heap.size 39 4 (.slice A m c) m ((scRes n l sc).flatMap GTr.cells) ∧ Gr w w' := by
  have HA := Lib.hid hA
  have HL := Lib.hid hL
  have hm3 := hL.small
  have HS := Lib.hid hS
  clear hA hL hS
  go_enter Try.func26, Try.ntmps26
  go_wp2_with fail
  refine (l24Code_any n l _ (HA.out.gr ((Gr.refl _).alloc _)) (HL.out.gr ((Gr.refl _).alloc _))).mono ?_
  rintro e w1 ⟨rfl, hg1⟩
  have hg0 : Gr w w1 := ((Gr.refl _).alloc _).trans hg1
  by_cases hc : trCode n l = 0
  · have Hc := Lib.hid hc
    have tb : (trCode n l != 0) = false := by simp [hc]
    have tc : (trCode n l == 0) = true := by simp [hc]
    clear hc
    go_wp2_with fail
    refine (l24Scales_any sc _ (HS.out.gr hg0)).mono ?_
    rintro e w2 ⟨rfl, rfl⟩
    cases hs : scOk sc with
    | true =>
      have Hs := Lib.hid hs
      have e0 : scCode n l sc = 0 := by rw [scCode, if_pos Hc.out, if_pos hs]
      have He := Lib.hid e0
      clear hs e0
      go_wp2_with fail
      refine (l24Scale_any _ l sc _ (HL.out.gr hg0) (HS.out.gr hg0) (trCode_zero Hc.out).2 Hs.out).mono ?_
      rintro e w3 ⟨A, c, rfl, ho, hg3⟩
      have Ho := Lib.hid ho
      clear ho
      go_wp2_with fail
      go_ret2
      refine ⟨A, n3, c, by rw [He.out]; rfl, hm3, ?_, hg0.trans hg3⟩
      rw [scRes, if_pos He.out]
      exact own_base Ho.out hg0.size
    | false =>
      have e0 : scCode n l sc = 2 := by rw [scCode, if_pos Hc.out, if_neg (by simp [hs])]
      have He := Lib.hid e0
      clear hs e0
      go_wp2_with fail
      go_ret2
      refine ⟨none, 0, 0, by rw [He.out]; rfl, by omega, ?_, hg0⟩
      rw [scRes, if_neg (by rw [He.out]; decide)]
      exact World.ownsRow_nil _ _ _ _
  · have Hc := Lib.hid hc
    have tb : (trCode n l != 0) = true := by simp [hc]
    have tc : (trCode n l == 0) = false := by simp [hc]
    clear hc
    go_wp2_with fail
    go_ret2
    have e : scCode n l sc = trCode n l := by rw [scCode, if_neg Hc.out]
    refine ⟨none, 0, 0, by rw [e]; rfl, by omega, ?_, hg0⟩
    rw [scRes, if_neg (by rw [e]; exact Hc.out)]
    exact World.ownsRow_nil _ _ _ _
set_option maxRecDepth 100000 in
theorem spOnlyClasses_any {A1 A2 A3 : Option Addr} {n1 c1 n2 c2 n3 c3 : Nat} (n : GNet) (l : List GTr) (q : Int) (w : World) (hA : NetAt w A1 n1 c1 A2 n2 c2 n) (hL : SlAt w 4 A3 n3 c3 (l.flatMap GTr.cells)) (_wf : (Lit.int .i64 q).wf = true) :
    Calls Try.prog 18 #[.agg #[.slice A1 n1 c1, .slice A2 n2 c2], .slice A3 n3 c3, .int .i64 q] w fun e w' => ∃ A m c, e = .returned (.tuple #[.slice A m c, .int .i64 (onCode n l q)]) ∧ m ≤ 1048576 ∧ w'.ownsRow w.heap.size 39 4 (.slice A m c) m ((onRes n l q).flatMap GTr.cells) ∧ Gr w w' := by
  have HA := Lib.hid hA
  have HL := Lib.hid hL
  have hm3 := hL.small
  clear hA hL
  go_enter Try.func18, Try.ntmps18
  go_wp2_with fail
  refine (l24Code_any n l _ (HA.out.gr ((Gr.refl _).alloc _)) (HL.out.gr ((Gr.refl _).alloc _))).mono ?_
  rintro e w1 ⟨rfl, hg1⟩
  have hg0 : Gr w w1 := ((Gr.refl _).alloc _).trans hg1
  by_cases hc : trCode n l = 0
  · have Hc := Lib.hid hc
    have tb : (trCode n l != 0) = false := by simp [hc]
    have tc : (trCode n l == 0) = true := by simp [hc]
    clear hc
    go_wp2_with fail
    refine (l01In_any _ _ _ _).mono ?_
    rintro e w2 ⟨rfl, rfl⟩
    cases hs : inB 0 q 4 with
    | true =>
      have Hs := Lib.hid hs
      have e0 : onCode n l q = 0 := by rw [onCode, if_pos Hc.out, if_pos hs]
      have He := Lib.hid e0
      clear hs e0
      go_wp2_with fail
      refine (l24Only_any q _).mono ?_
      rintro e w2 ⟨A4, c4, rfl, ho4, hg2⟩
      have Ho4 := Lib.hid ho4
      clear ho4
      go_wp2_with fail
      refine (l24Scale_any _ l (onlyScales q) _ (HL.out.gr (hg0.trans hg2)) (SlAt.of_own Ho4.out (by omega)) (trCode_zero Hc.out).2 (onlyScales_ok q)).mono ?_
      rintro e w3 ⟨A, c, rfl, ho, hg3⟩
      have Ho := Lib.hid ho
      clear ho
      go_wp2_with fail
      go_ret2
      refine ⟨A, n3, c, by rw [He.out]; rfl, hm3, ?_, (hg0.trans hg2).trans hg3⟩
      rw [onRes, if_pos He.out]
      exact own_base Ho.out (hg0.trans hg2).size
    | false =>
      have e0 : onCode n l q = 2 := by rw [onCode, if_pos Hc.out, if_neg (by simp [hs])]
      have He := Lib.hid e0
      clear hs e0
      go_wp2_with fail
      go_ret2
      refine ⟨none, 0, 0, by rw [He.out]; rfl, by omega, ?_, hg0⟩
      rw [onRes, if_neg (by rw [He.out]; decide)]
      exact World.ownsRow_nil _ _ _ _
  · have Hc := Lib.hid hc
    have tb : (trCode n l != 0) = true := by simp [hc]
    have tc : (trCode n l == 0) = false := by simp [hc]
    clear hc
    go_wp2_with fail
    go_ret2
    have e : onCode n l q = trCode n l := by rw [onCode, if_neg Hc.out]
    refine ⟨none, 0, 0, by rw [e]; rfl, by omega, ?_, hg0⟩
    rw [onRes, if_neg (by rw [e]; exact Hc.out)]
    exact World.ownsRow_nil _ _ _ _
end Go.Proofs.Ytejfpajbkgfiaaa
