/-
  Conflicts: thinning; the program and the reference.
-/
import Derived.Test.YtaicmgbmlkhagaaConf3
namespace Go.Proofs.Ytaicmgbmlkhagaa
open Go.ChangeShapes Go.WideShapes Go.ChangeAt Go.RowKit

theorem confB_nil {n : GNet} (hn : netOk n = true) (l : List GTr) : confB n l [] = false := by
  rw [confB, pick, List.map_nil, fit_none hn [] (fun x hx => by cases hx)]; rfl
def sliceN : Value → Nat
  | .slice _ m _ => m
  | _ => 0
def boolN : Value → Nat
  | .bool true => 1
  | _ => 0
/-- What is still to come of thinning: a further pass, or nothing. -/
def ThinAt (p : List Int → Bool) (R S : List Int) : Bool → Prop
  | true => tall p S = R
  | false => S = R
theorem thin_end {p : List Int → Bool} {S R kept : List Int} {b : Bool} (h1 : kept = (tpass p [] S).1) (h2 : b = (tpass p [] S).2) (hR : tall p S = R) : ThinAt p R kept b ∧ 2 * kept.length + boolN (.bool b) < 2 * S.length + 1 := by
  cases b with
  | true =>
    refine ⟨?_, ?_⟩
    · show tall p kept = R
      rw [h1, ← tall_more h2.symm]; exact hR
    · have := tpass_less p [] S h2.symm
      rw [← h1] at this
      simp [boolN] at this ⊢; omega
  | false =>
    have h3 := tpass_same p [] S h2.symm
    rw [← h1, List.nil_append] at h3
    refine ⟨?_, ?_⟩
    · show kept = R
      rw [h3, ← tall_done h2.symm]; exact hR
    · rw [h3]; simp [boolN]
/-- Where a pass of thinning stands. -/
structure PassAt (p : List Int → Bool) (m : Nat) (S kept rest : List Int) (b : Bool) : Prop where
  nd : Nd m (kept ++ rest)
  one : (tpass p kept rest).1 = (tpass p [] S).1
  two : (b || (tpass p kept rest).2) = (tpass p [] S).2
theorem PassAt.start {p : List Int → Bool} {m : Nat} {S : List Int} (h : Nd m S) : PassAt p m S [] S false := ⟨h, rfl, rfl⟩
theorem PassAt.hit {p : List Int → Bool} {m : Nat} {S kept rest : List Int} {x : Int} {b : Bool} (h : PassAt p m S kept (x :: rest) b) (hp : p (kept ++ rest) = true) : PassAt p m S kept rest true := by
  obtain ⟨h1, h2, h3⟩ := h
  rw [tpass_hit hp] at h2 h3
  refine ⟨h1.sub (List.Sublist.append (List.Sublist.refl _) (List.sublist_cons_self ..)), h2, ?_⟩
  rw [← h3]; simp
theorem PassAt.miss {p : List Int → Bool} {m : Nat} {S kept rest : List Int} {x : Int} {b : Bool} (h : PassAt p m S kept (x :: rest) b) (hp : p (kept ++ rest) = false) : PassAt p m S (kept ++ [x]) rest b := by
  obtain ⟨h1, h2, h3⟩ := h
  rw [tpass_miss hp] at h2 h3
  exact ⟨by simpa using h1, h2, h3⟩
theorem PassAt.stop {p : List Int → Bool} {m : Nat} {S kept : List Int} {b : Bool} (h : PassAt p m S kept [] b) : kept = (tpass p [] S).1 ∧ b = (tpass p [] S).2 ∧ Nd m kept := by
  obtain ⟨h1, h2, h3⟩ := h
  refine ⟨by simpa [tpass] using h2, by simpa [tpass] using h3, by simpa using h1⟩
set_option maxHeartbeats 4000000 in
set_option maxRecDepth 100000 in
theorem thinned_any {A1 A2 A3 A4 : Option Addr} {n1 c1 n2 c2 n3 c3 n4 c4 : Nat} (n : GNet) (l : List GTr) (s : List Int) (w : World) (hA : NetAt w A1 n1 c1 A2 n2 c2 n) (hL : SlAt w 4 A3 n3 c3 (l.flatMap GTr.cells)) (hS : SlAt w 1 A4 n4 c4 (ints s)) (hok : trsOk n1 l = true) (hs : Nd l.length s) :
    Calls Try.prog 102 #[.agg #[.slice A1 n1 c1, .slice A2 n2 c2], .slice A3 n3 c3, .slice A4 n4 c4] w fun e w' => ∃ A m c, e = .returned (.slice A m c) ∧ m ≤ 1048576 ∧ w'.ownsRow w.heap.size 2 1 (.slice A m c) m (ints (tall (confB n l) s)) ∧ Gr w w' := by
  have h32 := (trsOk_all hok).1
  have hl4 := hS.sl.ilen
  have hm4 := hS.small
  have HA := Lib.hid hA
  have HL := Lib.hid hL
  have HS := Lib.hid hS
  have Hok := Lib.hid hok
  have Hs := Lib.hid hs
  have Hl4 := Lib.hid hl4
  clear hA hL hS hok hs hl4
  go_enter Try.func102, Try.ntmps102
  go_wp2_with fail
  obtain ⟨w0, hw0⟩ : ∃ w0, w0 = w.alloc (.cells #[.slice A1 n1 c1, .slice A2 n2 c2] 32) := ⟨_, rfl⟩
  have hg0 : Gr w w0 := by rw [hw0]; exact (Gr.refl _).alloc _
  have b0 : w0.cell? ⟨w.heap.size, 0, none⟩ = some (.slice A1 n1 c1) := by rw [hw0]; simp [go_sem]
  have b1 : w0.cell? ⟨w.heap.size, 1, none⟩ = some (.slice A2 n2 c2) := by rw [hw0]; simp [go_sem]
  rw [← hw0]
  clear hw0
  refine (cloneInt_any (ints s) _ hm4 (HS.out.gr hg0).sl (ints_one s)).mono ?_
  rintro e w1 ⟨A', c', rfl, ho, hg1⟩
  have Ho := Lib.hid ho
  replace b0 := hg1.has b0
  replace b1 := hg1.has b1
  have hgw := hg0.trans hg1
  have hz1 := hg1.size
  clear ho
  go_wp2_with fail
  go_loopw [2, 7] (fun o f wr => ∃ S b, f = .bool b ∧ (∃ A m c, o = .slice A m c ∧ m = S.length ∧ wr.ownsRow w0.heap.size 2 1 (.slice A m c) m (ints S)) ∧ Nd l.length S ∧ ThinAt (confB n l) (tall (confB n l) s) S b ∧ Gr w1 wr) (fun o f _ => 2 * sliceN o + boolN f)
  case atStart => exact ⟨s, true, rfl, ⟨_, _, _, rfl, Hl4.out.symm, Ho.out⟩, Hs.out, rfl, Gr.refl _⟩
  case round =>
    obtain ⟨S, b, rfl, ⟨A, m, c, rfl, hm, hown⟩, hnd, hthin, hgr⟩ := hrel
    have Hown := Lib.hid hown
    have Hnd := Lib.hid hnd
    have hms : m ≤ 32 := by have := hnd.len; omega
    have Hm := Lib.hid hm
    cases b with
    | false =>
      have Hth : Hid (S = tall (confB n l) s) := Lib.hid hthin
      clear hown hnd hthin hm Ho
      go_wp2_with fail
      go_ret
      exact ⟨_, _, _, rfl, by omega, by rw [← Hth.out]; exact own_base Hown.out hg0.size, hgw.trans hgr⟩
    | true =>
      have Hth : Hid (tall (confB n l) S = tall (confB n l) s) := Lib.hid hthin
      clear hown hnd hthin hm Ho
      go_wp2_with fail
      go_loopw [2, 7, 8] (fun o f i wr => ∃ kept rest b, f = .bool b ∧ i = .int .i64 ((kept.length : Nat) : Int) ∧ (∃ A m c, o = .slice A m c ∧ m = (kept ++ rest).length ∧ wr.ownsRow w0.heap.size 2 1 (.slice A m c) m (ints (kept ++ rest))) ∧ PassAt (confB n l) l.length S kept rest b ∧ Gr w1 wr) (fun o _ i _ => sliceN o - (intOf i).toNat)
      case atStart => exact ⟨[], S, false, rfl, rfl, ⟨_, _, _, rfl, Hm.out, Hown.out⟩, PassAt.start Hnd.out, hgr⟩
      case round =>
        obtain ⟨kept, rest, b, rfl, rfl, ⟨B, q, d, rfl, hq, hown⟩, hpass, hgi⟩ := hrel
        have Hown := Lib.hid hown
        have Hpass := Lib.hid hpass
        have hqs : q ≤ 32 := by have := hpass.nd.len; omega
        have Hq := Lib.hid hq
        clear hown hpass
        cases rest with
        | nil =>
          have hkq : q = kept.length := by simpa using hq
          obtain ⟨e1, e2, e3⟩ := Hpass.out.stop
          obtain ⟨f1, f2⟩ := thin_end e1 e2 Hth.out
          have F1 := Lib.hid f1
          have F2 := Lib.hid f2
          have E3 := Lib.hid e3
          clear f1 f2 e1 e2 e3 hq
          subst hkq
          go_wp2_with fail
          go_roundw
          case rel => exact ⟨kept, b, rfl, ⟨_, _, _, rfl, rfl, by simpa using Hown.out⟩, E3.out, F1.out, hgi⟩
          case measure =>
            have h1 := F2.out
            have h2 := Hm.out
            have h3 : boolN (.bool true) = 1 := rfl
            show 2 * kept.length + boolN (.bool b) < 2 * m + boolN (.bool true)
            omega
        | cons x rest =>
          have hkq : kept.length + 1 ≤ q := by rw [hq]; simp
          obtain ⟨i, hi⟩ : ∃ i, i = kept.length := ⟨_, rfl⟩
          have hcut : cutAt (kept ++ x :: rest) i = kept ++ rest := by rw [hi]; exact cutAt_mid kept x rest
          have Hcut := Lib.hid hcut
          rw [← hi] at hkq ⊢
          have Hi := Lib.hid hi
          have t1 : (i : Int) < (q : Int) := by omega
          have t0 : (0 : Int) ≤ (i : Int) := by omega
          have hgx := hgw.trans hgi
          have d0 := hgi.has b0
          have d1 := hgi.has b1
          have Hnd2 : Hid (Nd l.length (kept ++ rest)) := Lib.hid (Hpass.out.nd.sub (List.Sublist.append (List.Sublist.refl _) (List.sublist_cons_self ..)))
          have hsz := hgi.size
          clear hi hcut hq
          go_wp2_with fail
          refine (cloneInt_any _ _ (by omega) (Sl.of_own Hown.out) (ints_one _)).mono ?_
          rintro e w5 ⟨A5, c5, rfl, ho, hg5⟩
          obtain ⟨g, rfl, hgb, _⟩ := own_form ho (by omega)
          have Ho := Lib.hid ho
          clear ho
          go_wp2_with fail
          refine (deleteInt_any _ i _ _ Ho.out (by omega) (by omega) (by push_cast; rfl)).mono ?_
          rintro e w6 ⟨rfl, ho6, hg6⟩
          rw [Hcut.out] at ho6
          have Ho6 := Lib.hid ho6
          have hx6 := hg5.grown hg6 (fun j hj => by injection hj with hj; omega)
          replace d0 := hx6.has d0
          replace d1 := hx6.has d1
          clear ho6
          go_wp2_with fail
          refine (isConflict_any n l (kept ++ rest) _ (HA.out.gr (hgx.trans hx6)) (HL.out.gr (hgx.trans hx6)) (SlAt.of_own Ho6.out (by omega)) Hok.out Hnd2.out).mono ?_
          rintro e w7 ⟨rfl, hg7⟩
          have hg8 : Gr w1 w7 := (hgi.trans hx6).trans hg7
          cases hf : confB n l (kept ++ rest) with
          | true =>
            have Hp := Lib.hid (Hpass.out.hit hf)
            clear hf
            go_wp2_with fail
            go_roundw
            case rel => exact ⟨kept, rest, true, rfl, by rw [Hi.out], ⟨_, _, _, rfl, by have := Hq.out; simp at this ⊢; omega, own_base (own_gr Ho6.out hg7) (by omega)⟩, Hp.out, hg8⟩
            case measure => simp only [sliceN, intOf]; omega
          | false =>
            have Hp := Lib.hid (Hpass.out.miss hf)
            clear hf
            go_wp2_with fail
            go_roundw
            case rel => exact ⟨kept ++ [x], rest, b, rfl, by rw [List.length_append, ← Hi.out]; go_num, ⟨_, _, _, rfl, by have := Hq.out; simpa using this, by simpa using own_gr Hown.out (hx6.trans hg7)⟩, Hp.out, hg8⟩
            case measure => simp only [sliceN, intOf]; omega
end Go.Proofs.Ytaicmgbmlkhagaa
