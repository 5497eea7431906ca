/-
  The small functions of the routing.
-/
import Derived.Test.YtdoidehlklkfaaaFlowM3
import Derived.Test.YtdoidehlklkfaaaWts
namespace Go.Proofs.Ytdoidehlklkfaaa
open Go.ChangeShapes Go.WideShapes Go.ChangeAt Go.RowKit

def nats (l : List Nat) : List Value := ints (l.map fun (x : Nat) => (x : Int))
theorem touch_iff {e : Ed} {v : Nat} : touch e v = true ↔ e.f = v ∨ e.t = v := by simp [touch]
theorem eds_ok {n : GNet} (h : netOk n = true) : EsOk (eds n.pipes) n.nodes.length where
  at_ := by
    intro p e he
    simp only [eds, List.getElem?_map, Option.map_eq_some_iff] at he
    obtain ⟨x, hx, rfl⟩ := he
    obtain ⟨a1, a2, a3, _, _, a6⟩ := pipeOk_all ((netOk_all h).2 p x hx)
    simp only [edOf]
    refine ⟨by omega, by omega, by omega, a6.1, a6.2⟩
theorem eds_at {ps : List GPipe} {p : Nat} {x : GPipe} (hx : ps[p]? = some x) : (eds ps).getD p dE = edOf x := by
  simp [eds, List.getD_eq_getElem?_getD, hx]
theorem otherEnd_any (x : GPipe) (v : Nat) (w : World) (h1 : 0 ≤ x.src) (h2 : 0 ≤ x.dst) :
    Calls Try.prog 161 #[.agg #[.int .i64 x.src, .int .i64 x.dst, .int .i64 x.k, .int .i64 x.vol, .int .i64 x.lim], .int .i64 v] w fun e w' => e = .returned (.int .i64 (oth (edOf x) v)) ∧ Gr w w' := by
  cases hc : (x.src == (v : Int))
  · have hv : ¬ (x.src.toNat = v) := by have : x.src ≠ (v : Int) := by simpa using hc
                                        omega
    have e : ((oth (edOf x) v : Nat) : Int) = x.src := by simp only [oth, edOf, hv, if_false]; omega
    have He := Lib.hid e
    clear e hv
    go_enter Try.func161, Try.ntmps161
    go_wp2_with fail
    go_ret
    exact ⟨ret_int He.out.symm, (Gr.refl _).alloc _⟩
  · have hv : x.src.toNat = v := by have : x.src = (v : Int) := by simpa using hc
                                    omega
    have e : ((oth (edOf x) v : Nat) : Int) = x.dst := by simp only [oth, edOf, hv, if_true]; omega
    have He := Lib.hid e
    clear e hv
    go_enter Try.func161, Try.ntmps161
    go_wp2_with fail
    go_ret
    exact ⟨ret_int He.out.symm, (Gr.refl _).alloc _⟩
theorem l02Other_any {A1 A2 : Option Addr} {n1 c1 n2 c2 : Nat} (n : GNet) (p v : Nat) (x : GPipe) (w : World) (hA : NetAt w A1 n1 c1 A2 n2 c2 n) (hok : netOk n = true) (hx : n.pipes[p]? = some x) (ht : touch (edOf x) v = true) :
    Calls Try.prog 157 #[.agg #[.slice A1 n1 c1, .slice A2 n2 c2], .int .i64 p, .int .i64 v] w fun e w' => e = .returned (.int .i64 (oth (edOf x) v)) ∧ Gr w w' := by
  obtain ⟨a1, a2, a3, _⟩ := pipeOk_all ((netOk_all hok).2 p x hx)
  have hm1 := hA.m1
  have hm2 := hA.m2
  have l1 := hA.l1
  have hpl := (List.getElem?_eq_some_iff.1 hx).1
  rw [hA.l2] at hpl
  have hsum : x.src + x.dst - v = oth (edOf x) v := by
    have hf : (edOf x).f = x.src.toNat := rfl
    have hd : (edOf x).t = x.dst.toNat := rfl
    rw [touch_iff] at ht
    rw [oth]
    by_cases h : (edOf x).f = v
    · rw [if_pos h]; omega
    · rw [if_neg h]; omega
  have Hsum := Lib.hid hsum
  have hg : Gr w (w.alloc (.cells #[.slice A1 n1 c1, .slice A2 n2 c2] 33)) := (Gr.refl _).alloc _
  obtain ⟨b, o, rfl, hb, r0, r1, r2, r3, r4⟩ := (hA.pipes.gr hg).pp hx
  have hvb : v ≤ 1048576 := by
    have hf : (edOf x).f = x.src.toNat := rfl
    have hd : (edOf x).t = x.dst.toNat := rfl
    rw [touch_iff] at ht
    omega
  have t1 : (p : Int) < (n2 : Int) := by omega
  have t0 : (0 : Int) ≤ (p : Int) := by omega
  have hw1 : IntKind.i64.wrap (x.src + x.dst) = x.src + x.dst := IntWalk.i64_in _ (by omega)
  have hw2 : IntKind.i64.wrap (x.src + x.dst - v) = x.src + x.dst - v := IntWalk.i64_in _ (by omega)
  clear hA hx hsum ht l1
  go_enter Try.func157, Try.ntmps157
  go_wp2_with fail
  go_quiet (fail)
  go_wp2_with fail
  go_ret
  exact ⟨ret_int Hsum.out, ((Gr.refl _).alloc _).drewN _⟩
def roomV (x : GPipe) (f : Int) (v : Nat) : Int := if x.src = (v : Int) then x.lim - f else x.lim + f
theorem room_eq {ps : List GPipe} {fl : List Int} {p v : Nat} {x : GPipe} {f : Int} (hx : ps[p]? = some x) (h0 : 0 ≤ x.src) (hf : fl[p]? = some f) : room (eds ps) fl p v = roomV x f v := by
  have e1 : fl.getD p 0 = f := by rw [List.getD_eq_getElem?_getD, hf]; rfl
  have e2 : (edOf x).f = x.src.toNat := rfl
  have e3 : (edOf x).lim = x.lim := rfl
  rw [room, eds_at hx, e1, e2, e3, roomV]
  by_cases h : x.src = (v : Int)
  · rw [if_pos (by omega), if_pos h]
  · rw [if_neg (by omega), if_neg h]
theorem l23Room_any {A1 A2 A3 : Option Addr} {n1 c1 n2 c2 n3 c3 : Nat} (n : GNet) (fl : List Int) (p v : Nat) (x : GPipe) (f : Int) (w : World) (hA : NetAt w A1 n1 c1 A2 n2 c2 n) (hF : SlAt w 1 A3 n3 c3 (ints fl)) (hok : netOk n = true) (hx : n.pipes[p]? = some x) (hf : fl[p]? = some f) (hfb : -1000000000 ≤ f ∧ f ≤ 1000000000) :
    Calls Try.prog 158 #[.agg #[.slice A1 n1 c1, .slice A2 n2 c2], .slice A3 n3 c3, .int .i64 p, .int .i64 v] w fun e w' => e = .returned (.int .i64 (room (eds n.pipes) fl p v)) ∧ Gr w w' := by
  obtain ⟨a1, a2, a3, _, _, a6⟩ := pipeOk_all ((netOk_all hok).2 p x hx)
  rw [room_eq hx a1.1 hf]
  have hm2 := hA.m2
  have hm3 := hF.small
  have hpl := (List.getElem?_eq_some_iff.1 hx).1
  rw [hA.l2] at hpl
  have hpf := (List.getElem?_eq_some_iff.1 hf).1
  rw [hF.sl.ilen] at hpf
  have hg : Gr w (w.alloc (.cells #[.slice A1 n1 c1, .slice A2 n2 c2] 33)) := (Gr.refl _).alloc _
  obtain ⟨b, o, rfl, hb, r0, r1, r2, r3, r4⟩ := (hA.pipes.gr hg).pp hx
  obtain ⟨b3, o3, rfl, hb3, s0⟩ := (hF.sl.gr hg).int hf
  have t1 : (p : Int) < (n2 : Int) := by omega
  have t3 : (p : Int) < (n3 : Int) := by omega
  have t0 : (0 : Int) ≤ (p : Int) := by omega
  have hw1 : IntKind.i64.wrap (x.lim - f) = x.lim - f := IntWalk.i64_in _ (by omega)
  have hw2 : IntKind.i64.wrap (x.lim + f) = x.lim + f := IntWalk.i64_in _ (by omega)
  clear hA hF hx hf
  cases hc : (x.src == (v : Int))
  · have Hv : Hid (roomV x f v = x.lim + f) := Lib.hid (by rw [roomV, if_neg (by simpa using hc)])
    go_enter Try.func158, Try.ntmps158
    go_wp2_with fail
    go_quiet (fail)
    go_wp2_with fail
    go_ret
    exact ⟨ret_int Hv.out.symm, ((Gr.refl _).alloc _).drewN _⟩
  · have Hv : Hid (roomV x f v = x.lim - f) := Lib.hid (by rw [roomV, if_pos (by simpa using hc)])
    go_enter Try.func158, Try.ntmps158
    go_wp2_with fail
    go_quiet (fail)
    go_wp2_with fail
    go_ret
    exact ⟨ret_int Hv.out.symm, ((Gr.refl _).alloc _).drewN _⟩
/-- The four cells of a routing. -/
structure RtAt (w : World) (g : Nat) (A1 : Option Addr) (n1 c1 : Nat) (A2 : Option Addr) (n2 c2 : Nat) (A3 : Option Addr) (n3 c3 : Nat) (L : Value) : Prop where
  k0 : w.cell? ⟨g, 0, none⟩ = some (.slice A1 n1 c1)
  k1 : w.cell? ⟨g, 1, none⟩ = some (.slice A2 n2 c2)
  k2 : w.cell? ⟨g, 2, none⟩ = some (.slice A3 n3 c3)
  k3 : w.cell? ⟨g, 3, none⟩ = some L
theorem RtAt.gr {w w' : World} {g : Nat} {A1 : Option Addr} {n1 c1 : Nat} {A2 : Option Addr} {n2 c2 : Nat} {A3 : Option Addr} {n3 c3 : Nat} {L : Value} (h : RtAt w g A1 n1 c1 A2 n2 c2 A3 n3 c3 L) (hg : Gr w w') : RtAt w' g A1 n1 c1 A2 n2 c2 A3 n3 c3 L := ⟨hg.has h.k0, hg.has h.k1, hg.has h.k2, hg.has h.k3⟩
theorem room_any {A1 A2 A3 : Option Addr} {n1 c1 n2 c2 n3 c3 g : Nat} {L : Value} (n : GNet) (fl : List Int) (p v : Nat) (x : GPipe) (f : Int) (w : World) (hR : RtAt w g A1 n1 c1 A2 n2 c2 A3 n3 c3 L) (hA : NetAt w A1 n1 c1 A2 n2 c2 n) (hF : SlAt w 1 A3 n3 c3 (ints fl)) (hok : netOk n = true) (hx : n.pipes[p]? = some x) (hf : fl[p]? = some f) (hfb : -1000000000 ≤ f ∧ f ≤ 1000000000) :
    Calls Try.prog 162 #[.pointer (some ⟨g, 0, none⟩), .int .i64 p, .int .i64 v] w fun e w' => e = .returned (.int .i64 (room (eds n.pipes) fl p v)) ∧ Gr w w' := by
  obtain ⟨a1, a2, a3, _, _, a6⟩ := pipeOk_all ((netOk_all hok).2 p x hx)
  rw [room_eq hx a1.1 hf]
  have hm2 := hA.m2
  have hm3 := hF.small
  have hpl := (List.getElem?_eq_some_iff.1 hx).1
  rw [hA.l2] at hpl
  have hpf := (List.getElem?_eq_some_iff.1 hf).1
  rw [hF.sl.ilen] at hpf
  have hg : Gr w (w.alloc (.cells #[.int .i64 x.src, .int .i64 x.dst, .int .i64 x.k, .int .i64 x.vol, .int .i64 x.lim] 145)) := (Gr.refl _).alloc _
  have k0 := hR.k0
  have k1 := hR.k1
  have k2 := hR.k2
  have m1 := hg.has hR.k1
  have m2 := hg.has hR.k2
  have hgl := lt_of_cell hR.k0
  obtain ⟨b, o, rfl, hb, r0, r1, r2, r3, r4⟩ := hA.pipes.pp hx
  obtain ⟨b3, o3, rfl, hb3, s0⟩ := (hF.sl.gr hg).int hf
  have t1 : (p : Int) < (n2 : Int) := by omega
  have t3 : (p : Int) < (n3 : Int) := by omega
  have t0 : (0 : Int) ≤ (p : Int) := by omega
  have hw1 : IntKind.i64.wrap (x.lim - f) = x.lim - f := IntWalk.i64_in _ (by omega)
  have hw2 : IntKind.i64.wrap (x.lim + f) = x.lim + f := IntWalk.i64_in _ (by omega)
  clear hA hF hx hf hR
  cases hc : (x.src == (v : Int))
  · have Hv : Hid (roomV x f v = x.lim + f) := Lib.hid (by rw [roomV, if_neg (by simpa using hc)])
    go_enter Try.func162, Try.ntmps162
    go_wp2_with fail
    go_quiet (fail)
    go_wp2_with fail
    go_ret
    exact ⟨ret_int Hv.out.symm, ((Gr.refl _).alloc _).drewN _⟩
  · have Hv : Hid (roomV x f v = x.lim - f) := Lib.hid (by rw [roomV, if_pos (by simpa using hc)])
    go_enter Try.func162, Try.ntmps162
    go_wp2_with fail
    go_quiet (fail)
    go_wp2_with fail
    go_ret
    exact ⟨ret_int Hv.out.symm, ((Gr.refl _).alloc _).drewN _⟩
end Go.Proofs.Ytdoidehlklkfaaa
