import Derived.Test.YtbbecboihmmllaaDraw18
import Derived.Deep.RegionHeld3
import Derived.Deep.Cut
import Derived.Deep.CutRange
import Derived.Deep.AppendLies
import Derived.Maps.AppendAt
/-
  Draws of an hour: what stands while the network, the buffers and the flows are drawn.
-/
set_option linter.unusedSimpArgs false
set_option linter.unusedVariables false
namespace Go.Proofs.Ytbbecboihmmllaa
open Go.ChangeShapes Go.WideShapes Go.ChangeAt Go.RowKit

theorem three_new (w : World) (o1 o2 o3 : Obj) : (((w.alloc o1).alloc o2).alloc o3).heap[w.heap.size]? = some o1 ∧ (((w.alloc o1).alloc o2).alloc o3).heap[w.heap.size + 1]? = some o2 ∧ (((w.alloc o1).alloc o2).alloc o3).heap[w.heap.size + 2]? = some o3 ∧ (((w.alloc o1).alloc o2).alloc o3).heap.size = w.heap.size + 3 ∧ Gr w (((w.alloc o1).alloc o2).alloc o3) := by
  have g1 : Gr (w.alloc o1) ((w.alloc o1).alloc o2) := (Gr.refl _).alloc _
  have g2 : Gr ((w.alloc o1).alloc o2) (((w.alloc o1).alloc o2).alloc o3) := (Gr.refl _).alloc _
  have a := heap_alloc_new w o1
  have b := heap_alloc_new (w.alloc o1) o2
  have c := heap_alloc_new ((w.alloc o1).alloc o2) o3
  have a2 := ((g1.trans g2).below.block _ (rb_lt a)).trans a
  have b2 := (g2.below.block _ (rb_lt b)).trans b
  have s1 : (w.alloc o1).heap.size = w.heap.size + 1 := by simp
  have s2 : ((w.alloc o1).alloc o2).heap.size = w.heap.size + 2 := by simp
  rw [s1] at b2
  rw [s2] at c
  exact ⟨a2, b2, c, by simp, ((Gr.refl w).alloc _).trans (g1.trans g2)⟩
/-- A row of numbers that is being drawn. -/
structure IRow where
  A : Option Addr
  u : Nat
  c : Nat
  zs : List Int
def Apart (v v' : Value) : Prop := ∀ k, v.ownBlock = some k → v'.ownBlock ≠ some k
theorem Apart.symm {v v' : Value} (h : Apart v v') : Apart v' v := fun k hk e => h k e hk
structure HB (w0 w : World) (S R M : Nat) : Prop where
  b1 : S < R
  b2 : w.heap.size ≤ R
  b3 : w0.heap.size ≤ R
  b4 : R + 2 < M
/-- A network stands at M, numbered rows behind it; the three results at R are still empty. -/
structure HSt (w0 w wx : World) (S R M : Nat) (A1 : Option Addr) (n1 c1 : Nat) (A2 : Option Addr) (n2 c2 : Nat) (L : List IRow) : Prop where
  net : ∃ q, OwnNet wx (R + 3) A1 n1 c1 A2 n2 c2 q
  hM : wx.heap[M]? = some (.cells #[.slice A1 n1 c1, .slice A2 n2 c2] 27 (0, 0))
  z0 : wx.heap[R]? = some (.cells #[.slice none 0 0, .slice none 0 0] 27 (0, 0))
  z1 : wx.heap[R + 1]? = some (.cells #[.slice none 0 0, .slice none 0 0, .slice none 0 0] 30 (0, 0))
  z2 : wx.heap[R + 2]? = some (.cells #[.slice none 0 0, .slice none 0 0] 32 (0, 0))
  dr : Drw w0 wx S
  ch : Chg (fun j => j = S) w wx
  rows : ∀ r ∈ L, wx.ownsRow (M + 1) 2 1 (.slice r.A r.u r.c) r.u (ints r.zs)
  apart : L.Pairwise (fun r s => Apart (.slice r.A r.u r.c) (.slice s.A s.u s.c))
section
variable {w0 w wx wy : World} {S R M : Nat} {A1 A2 : Option Addr} {n1 c1 n2 c2 : Nat} {L : List IRow} {r : IRow}
theorem HSt.gr (h : HSt w0 w wx S R M A1 n1 c1 A2 n2 c2 L) (hg : Gr wx wy) : HSt w0 w wy S R M A1 n1 c1 A2 n2 c2 L := by
  obtain ⟨q, hO⟩ := h.net
  exact ⟨⟨q, hO.gr hg⟩, (hg.below.block _ (rb_lt h.hM)).trans h.hM, (hg.below.block _ (rb_lt h.z0)).trans h.z0, (hg.below.block _ (rb_lt h.z1)).trans h.z1, (hg.below.block _ (rb_lt h.z2)).trans h.z2, h.dr.grow hg, h.ch.trans (hg.chg _), fun r hr => own_gr (h.rows r hr) hg, h.apart⟩
theorem HSt.next (h : HSt w0 w wx S R M A1 n1 c1 A2 n2 c2 L) (B : HB w0 w S R M) (hd : Drw w0 wy S) (hc : Chg (fun j => j = S) wx wy) : HSt w0 w wy S R M A1 n1 c1 A2 n2 c2 L := by
  obtain ⟨b1, b2, b3, b4⟩ := B
  obtain ⟨q, hO⟩ := h.net
  exact ⟨⟨q, own_chg hO.nodes hc (fun j hj e => by have := own_low hO.nodes hj; omega), own_chg hO.pipes hc (fun j hj e => by have := own_low hO.pipes hj; omega), hO.names, hO.m1, hO.m2⟩, rb_chg h.hM hc (by omega), rb_chg h.z0 hc (by omega), rb_chg h.z1 hc (by omega), rb_chg h.z2 hc (by omega), hd, h.ch.trans hc, fun r hr => own_chg (h.rows r hr) hc (fun j hj e => by have := own_low (h.rows r hr) hj; omega), h.apart⟩
theorem HSt.sub {L' : List IRow} (h : HSt w0 w wx S R M A1 n1 c1 A2 n2 c2 L) (hs : L'.Sublist L) : HSt w0 w wx S R M A1 n1 c1 A2 n2 c2 L' :=
  ⟨h.net, h.hM, h.z0, h.z1, h.z2, h.dr, h.ch, fun r hr => h.rows r (hs.subset hr), h.apart.sublist hs⟩
theorem HSt.push (h : HSt w0 w wx S R M A1 n1 c1 A2 n2 c2 L) : HSt w0 w (wx.alloc (.cells #[] 2)) S R M A1 n1 c1 A2 n2 c2 (L ++ [⟨some ⟨wx.heap.size, 0, none⟩, 0, 0, []⟩]) := by
  have hg : Gr wx (wx.alloc (.cells #[] 2)) := (Gr.refl _).alloc _
  have h' := h.gr hg
  refine ⟨h'.net, h'.hM, h'.z0, h'.z1, h'.z2, h'.dr, h'.ch, fun r hr => ?_, ?_⟩
  · rcases List.mem_append.1 hr with hr | hr
    · exact h'.rows r hr
    · simp only [List.mem_singleton] at hr
      subst hr
      exact own_base (World.ownsRow_lit wx (e := 2) (size := 1) #[] 0 (Nat.le_refl _) (by unfold maxLen; omega) rfl) (rb_lt h.hM)
  · rw [List.pairwise_append]
    refine ⟨h.apart, by simp, fun r hr s hs => ?_⟩
    simp only [List.mem_singleton] at hs
    subst hs
    intro k hk e
    have := (World.ownsRow.lt (h.rows r hr) k hk).2
    simp only [Value.ownBlock, Option.some.injEq] at e
    omega
theorem HSt.rot (h : HSt w0 w wx S R M A1 n1 c1 A2 n2 c2 (r :: L)) : HSt w0 w wx S R M A1 n1 c1 A2 n2 c2 (L ++ [r]) :=
  ⟨h.net, h.hM, h.z0, h.z1, h.z2, h.dr, h.ch, fun s hs => h.rows s (by simp only [List.mem_append, List.mem_cons, List.not_mem_nil, or_false] at hs ⊢; exact hs.symm), by
    have h1 := List.pairwise_cons.1 h.apart
    rw [List.pairwise_append]
    refine ⟨h1.2, by simp, fun s hs t ht => ?_⟩
    simp only [List.mem_singleton] at ht
    subst ht
    exact (h1.1 s hs).symm⟩
theorem HSt.rot4 {a b c d : IRow} (h : HSt w0 w wx S R M A1 n1 c1 A2 n2 c2 [a, b, c, d]) : HSt w0 w wx S R M A1 n1 c1 A2 n2 c2 [b, c, d, a] := h.rot
/-- A change of the head's own block alone. -/
theorem HSt.head {r' : IRow} (h : HSt w0 w wx S R M A1 n1 c1 A2 n2 c2 (r :: L)) (B : HB w0 w S R M) (hown : wy.ownsRow (M + 1) 2 1 (.slice r'.A r'.u r'.c) r'.u (ints r'.zs)) (hg : wx.grownBy wy (Value.slice r.A r.u r.c).ownBlock) (hb : ∀ k, (Value.slice r'.A r'.u r'.c).ownBlock = some k → (Value.slice r.A r.u r.c).ownBlock = some k ∨ wx.heap.size ≤ k) : HSt w0 w wy S R M A1 n1 c1 A2 n2 c2 (r' :: L) := by
  obtain ⟨b1, b2, b3, b4⟩ := B
  obtain ⟨q, hO⟩ := h.net
  have hr := h.rows r (by simp)
  have hlow : ∀ k, (Value.slice r.A r.u r.c).ownBlock = some k → M + 1 ≤ k := fun k hk => own_low hr hk
  have hc : Chg (fun k => (Value.slice r.A r.u r.c).ownBlock = some k) wx wy := chg_of_grown hg (fun k hk => hk)
  have hap := List.pairwise_cons.1 h.apart
  have hne : ∀ {A : Option Addr} {n c s : Nat} {e : TypeId} {xs : List Value}, wx.ownsRow (R + 3) e s (.slice A n c) n xs → e ≠ 2 → ∀ j, (Value.slice A n c).ownBlock = some j → ¬ (Value.slice r.A r.u r.c).ownBlock = some j := by
    intro A n c s e xs ho hte j hj hk
    have hA := own_blk_at ho hj
    have hR := own_blk_at hr hk
    subst hA
    rw [hR] at hr
    exact own_types' ho (own_base hr (by omega)) hte
  refine ⟨⟨q, own_chg hO.nodes hc (hne hO.nodes (by decide)), own_chg hO.pipes hc (hne hO.pipes (by decide)), hO.names, hO.m1, hO.m2⟩, rb_chg h.hM hc (fun e => by have := hlow _ e; omega), rb_chg h.z0 hc (fun e => by have := hlow _ e; omega), rb_chg h.z1 hc (fun e => by have := hlow _ e; omega), rb_chg h.z2 hc (fun e => by have := hlow _ e; omega), h.dr.grown hg (fun j hj => by have := hlow j hj; omega), h.ch.grown' hg (fun j hj => by have := hlow j hj; omega), fun s hs => ?_, ?_⟩
  · rcases List.mem_cons.1 hs with rfl | hs
    · exact hown
    · exact own_chg (h.rows s (List.mem_cons_of_mem _ hs)) hc (fun j hj e => (hap.1 s hs) j e hj)
  · refine List.pairwise_cons.2 ⟨fun s hs k hk e => ?_, hap.2⟩
    rcases hb k hk with h1 | h1
    · exact hap.1 s hs k h1 e
    · have := (World.ownsRow.lt (h.rows s (List.mem_cons_of_mem _ hs)) k e).2
      omega
theorem HSt.add {A A' : Option Addr} {u c c' : Nat} {zs : List Int} {x : Int} (h : HSt w0 w wx S R M A1 n1 c1 A2 n2 c2 (⟨A, u, c, zs⟩ :: L)) (B : HB w0 w S R M) (hown : wy.ownsRow (M + 1) 2 1 (.slice A' (u + 1) c') (u + 1) (ints zs ++ [.int .i64 x])) (hg : wx.grownBy wy (Value.slice A u c).ownBlock) (hb : (Value.slice A' (u + 1) c').ownBlock = (Value.slice A u c).ownBlock ∨ (Value.slice A' (u + 1) c').ownBlock = some wx.heap.size) : HSt w0 w wy S R M A1 n1 c1 A2 n2 c2 (⟨A', u + 1, c', zs ++ [x]⟩ :: L) :=
  h.head B (own_eq' hown (by simp [ints])) hg (fun k hk => by
    rcases hb with e | e
    · exact .inl (by rw [← e]; exact hk)
    · right; rw [e] at hk; injection hk with hk; omega)
theorem HSt.put {b u c k : Nat} {zs : List Int} (h : HSt w0 w wx S R M A1 n1 c1 A2 n2 c2 (⟨some ⟨b, 0, none⟩, u, c, zs⟩ :: L)) (B : HB w0 w S R M) (v : Int) : HSt w0 w (wx.setCell ⟨b, k, none⟩ (.int .i64 v)) S R M A1 n1 c1 A2 n2 c2 (⟨some ⟨b, 0, none⟩, u, c, zs.set k v⟩ :: L) := by
  have hr := h.rows _ (List.mem_cons_self ..)
  obtain ⟨a1, a2⟩ := own_set_int hr k v
  exact h.head B a1 a2 (fun k hk => .inl hk)
theorem HSt.lim {b k : Nat} (h : HSt w0 w wx S R M A1 n1 c1 (some ⟨b, 0, none⟩) n2 c2 L) (B : HB w0 w S R M) (hk : k < n2) (v : Int) : HSt w0 w (wx.setCell ⟨b, k * 5 + 4, none⟩ (.int .i64 v)) S R M A1 n1 c1 (some ⟨b, 0, none⟩) n2 c2 L := by
  obtain ⟨b1, b2, b3, b4⟩ := B
  obtain ⟨q, hO⟩ := h.net
  have hl := hO.at_.l2
  obtain ⟨x, hx⟩ : ∃ x, q.pipes[k]? = some x := ⟨_, List.getElem?_eq_getElem (by omega)⟩
  have hcs : Chg (fun j => j = b) wx (wx.setCell ⟨b, k * 5 + 4, none⟩ (.int .i64 v)) := chg_put _ _
  have hb := own_low hO.pipes (k := b) rfl
  have hp := own_eq' (hO.pipes.stored (k * 5 + 4) (.int .i64 v)).1 (pp_lim _ _ _ v hx)
  refine ⟨⟨⟨q.nodes, q.pipes.set k ⟨x.src, x.dst, x.k, x.vol, v⟩⟩, own_chg hO.nodes hcs (fun j hj e => ?_), hp, hO.names, hO.m1, hO.m2⟩, rb_chg h.hM hcs (fun e => ?_), rb_chg h.z0 hcs (by omega), rb_chg h.z1 hcs (by omega), rb_chg h.z2 hcs (by omega), h.dr.set (by omega) (by omega), h.ch.fresh (by omega), fun r hr => own_chg (h.rows r hr) hcs (fun j hj e => ?_), h.apart⟩
  · have hA := own_blk_at hO.nodes hj
    subst hA
    subst e
    exact own_types' hO.nodes hO.pipes (by decide)
  · subst e; exact own_type_blk' hO.pipes h.hM (by decide)
  · have hr := h.rows r hr
    have hA := own_blk_at hr hj
    rw [hA] at hr
    subst e
    exact own_types' hO.pipes (own_base hr (by omega)) (by decide)
theorem HSt.m0 (h : HSt w0 w wx S R M A1 n1 c1 A2 n2 c2 L) : wx.cell? ⟨M, 0, none⟩ = some (.slice A1 n1 c1) := rb_cell (j := 0) h.hM rfl
theorem HSt.m1 (h : HSt w0 w wx S R M A1 n1 c1 A2 n2 c2 L) : wx.cell? ⟨M, 1, none⟩ = some (.slice A2 n2 c2) := rb_cell (j := 1) h.hM rfl
theorem HSt.fp {b k : Nat} (h : HSt w0 w wx S R M A1 n1 c1 (some ⟨b, 0, none⟩) n2 c2 L) (hk : k < n2) : (∃ z : Int, wx.cell? ⟨b, k * 5 + 4, none⟩ = some (.int .i64 z)) ∧ wx.frozen? ⟨b, k * 5 + 4, none⟩ = false := by
  obtain ⟨q, hO⟩ := h.net
  have hl := hO.at_.l2
  obtain ⟨x, hx⟩ : ∃ x, q.pipes[k]? = some x := ⟨_, List.getElem?_eq_getElem (by omega)⟩
  obtain ⟨_, _, _, _, a, _, _, _, _, c⟩ := own_pp hO.pipes hx
  exact ⟨⟨_, a⟩, c⟩
theorem HSt.g2 (h : HSt w0 w wx S R M A1 n1 c1 A2 n2 c2 L) (h0 : 0 < n2) : ∃ g, A2 = some ⟨g, 0, none⟩ := by
  obtain ⟨q, hO⟩ := h.net
  obtain ⟨g, e, _⟩ := own_form hO.pipes h0
  exact ⟨g, e⟩
/-- The last number of a row. -/
theorem HSt.last {A : Option Addr} {k c : Nat} {zs : List Int} {x : Int} (h : HSt w0 w wx S R M A1 n1 c1 A2 n2 c2 L) (hr : ⟨A, k + 1, c, zs ++ [x]⟩ ∈ L) : ∃ b, A = some ⟨b, 0, none⟩ ∧ M + 1 ≤ b := by
  have ho := h.rows _ hr
  obtain ⟨b, e, hb, _⟩ := own_form ho (Nat.succ_pos k)
  exact ⟨b, e, hb⟩
theorem HSt.lastc {b k c : Nat} {zs : List Int} {x : Int} (h : HSt w0 w wx S R M A1 n1 c1 A2 n2 c2 L) (hr : ⟨some ⟨b, 0, none⟩, k + 1, c, zs ++ [x]⟩ ∈ L) : wx.cell? ⟨b, k, none⟩ = some (.int .i64 x) := by
  have ho := h.rows _ hr
  simp only at ho
  have hl := own_ilen ho
  refine (own_int ho (k := k) ?_).1
  have : zs.length = k := by simpa using hl
  simp [← this]
theorem HSt.own {A : Option Addr} {u c : Nat} {zs : List Int} (h : HSt w0 w wx S R M A1 n1 c1 A2 n2 c2 (⟨A, u, c, zs⟩ :: L)) : wx.ownsRow (M + 1) 2 1 (.slice A u c) u (ints zs) := h.rows _ (List.mem_cons_self ..)
theorem HSt.add2 {A : Option Addr} {u c c' g : Nat} {zs : List Int} {x : Int} (h : HSt w0 w wx S R M A1 n1 c1 A2 n2 c2 (⟨A, u, c, zs⟩ :: L)) (B : HB w0 w S R M) (hown : wy.ownsRow (M + 1) 2 1 (.slice (some ⟨g, 0, none⟩) (u + 1) c') (u + 1) (ints zs ++ [.int .i64 x])) (hg : wx.grownBy wy (Value.slice A u c).ownBlock) (hb : (Value.slice A u c).ownBlock = some g ∨ g = wx.heap.size) : HSt w0 w wy S R M A1 n1 c1 A2 n2 c2 (⟨some ⟨g, 0, none⟩, u + 1, c', zs ++ [x]⟩ :: L) :=
  h.add B hown hg (hb.elim (fun e => .inl (by rw [e]; rfl)) (fun e => .inr (by rw [e]; rfl)))
theorem HSt.four (h : HSt w0 w wx S R M A1 n1 c1 A2 n2 c2 []) : HSt w0 w ((((wx.alloc (.cells #[] 2)).alloc (.cells #[] 2)).alloc (.cells #[] 2)).alloc (.cells #[] 2)) S R M A1 n1 c1 A2 n2 c2 [⟨some ⟨wx.heap.size, 0, none⟩, 0, 0, []⟩, ⟨some ⟨wx.heap.size + 1, 0, none⟩, 0, 0, []⟩, ⟨some ⟨wx.heap.size + 2, 0, none⟩, 0, 0, []⟩, ⟨some ⟨wx.heap.size + 3, 0, none⟩, 0, 0, []⟩] := by
  have := h.push.push.push.push
  simpa using this
theorem HSt.last4 {a b c : IRow} {A : Option Addr} {k e : Nat} {zs : List Int} {x : Int} (h : HSt w0 w wx S R M A1 n1 c1 A2 n2 c2 [a, b, c, ⟨A, k + 1, e, zs ++ [x]⟩]) : ∃ b, A = some ⟨b, 0, none⟩ ∧ M + 1 ≤ b := h.last (k := k) (c := e) (zs := zs) (x := x) (by simp)
theorem HSt.lastc4 {a b c : IRow} {g k e : Nat} {zs : List Int} {x : Int} (h : HSt w0 w wx S R M A1 n1 c1 A2 n2 c2 [a, b, c, ⟨some ⟨g, 0, none⟩, k + 1, e, zs ++ [x]⟩]) : wx.cell? ⟨g, k, none⟩ = some (.int .i64 x) := h.lastc (k := k) (c := e) (zs := zs) (x := x) (by simp)
theorem HSt.lastc3 {a b c : IRow} {g k e : Nat} {zs : List Int} {x : Int} (h : HSt w0 w wx S R M A1 n1 c1 A2 n2 c2 [a, b, ⟨some ⟨g, 0, none⟩, k + 1, e, zs ++ [x]⟩, c]) : wx.cell? ⟨g, k, none⟩ = some (.int .i64 x) := h.lastc (k := k) (c := e) (zs := zs) (x := x) (by simp)
theorem HSt.lastc2 {a b c : IRow} {g k e : Nat} {zs : List Int} {x : Int} (h : HSt w0 w wx S R M A1 n1 c1 A2 n2 c2 [a, ⟨some ⟨g, 0, none⟩, k + 1, e, zs ++ [x]⟩, b, c]) : wx.cell? ⟨g, k, none⟩ = some (.int .i64 x) := h.lastc (k := k) (c := e) (zs := zs) (x := x) (by simp)
theorem HSt.cell {A : Option Addr} {u c : Nat} {zs : List Int} (h : HSt w0 w wx S R M A1 n1 c1 A2 n2 c2 L) (hr : ⟨A, u, c, zs⟩ ∈ L) {k : Nat} (hk : k < u) : ∃ b, ∃ x : Int, A = some ⟨b, 0, none⟩ ∧ wx.cell? ⟨b, k, none⟩ = some (.int .i64 x) ∧ wx.frozen? ⟨b, k, none⟩ = false := by
  have ho := h.rows _ hr
  obtain ⟨b, e, _⟩ := own_form ho (Nat.zero_lt_of_lt hk)
  simp only at e
  subst e
  have hl := own_ilen ho
  obtain ⟨x, hx⟩ : ∃ x, zs[k]? = some x := ⟨_, List.getElem?_eq_getElem (by simp only at hl; omega)⟩
  have := own_int ho hx
  exact ⟨b, x, rfl, this.1, this.2⟩
end
/-- A slice of numbers whose memory is not below base. -/
def SlB (w : World) (base : Nat) (A : Option Addr) (n c : Nat) (zs : List Int) : Prop := SlAt w 1 A n c (ints zs) ∧ ∀ a, A = some a → base ≤ a.block
theorem SlB.of_own {w : World} {base n c : Nat} {A : Option Addr} {e : TypeId} {zs : List Int} (h : w.ownsRow base e 1 (.slice A n c) n (ints zs)) (hn : n ≤ 1048576) : SlB w base A n c zs :=
  ⟨SlAt.of_own h hn, fun a ha => by subst ha; exact own_low h (k := a.block) rfl⟩
theorem SlB.chg {w w' : World} {base n c : Nat} {A : Option Addr} {zs : List Int} {P : Nat → Prop} (h : SlB w base A n c zs) (hc : Chg P w w') (hP : ∀ k, P k → k < base) : SlB w' base A n c zs :=
  ⟨⟨⟨h.1.sl.1, fun hn => by
    obtain ⟨b, o, e, hb, hr⟩ := h.1.sl.2 hn
    have h2 := h.2 _ e
    refine ⟨b, o, e, Nat.lt_of_lt_of_le hb hc.size, fun j u hu => chg_cell' hc (hr j u hu) (fun e => ?_)⟩
    have := hP _ e
    simp only [Addr.add] at h2 this
    omega⟩, h.1.cap, h.1.small⟩, h.2⟩
theorem SlB.low {w : World} {base base' n c : Nat} {A : Option Addr} {zs : List Int} (h : SlB w base A n c zs) (hb : base' ≤ base) : SlB w base' A n c zs := ⟨h.1, fun a ha => Nat.le_trans hb (h.2 a ha)⟩
/-- What is left of a row behind its first number. -/
theorem SlB.tail {w : World} {base b n c : Nat} {zs : List Int} (h : SlB w base (some ⟨b, 0, none⟩) n c zs) (hn : 0 < n) (o : Nat) (ho : 1 < n → o = 1) : SlB w base (some ⟨b, o, none⟩) (n - 1) (c - 1) zs.tail := by
  have hl : zs.length = n := by have := h.1.sl.1; rw [ints_length] at this; omega
  have hcap := h.1.cap
  have hsm := h.1.small
  refine ⟨⟨⟨by rw [ints_length, List.length_tail, hl]; omega, fun hm => ?_⟩, by omega, by omega⟩, fun a ha => ?_⟩
  · obtain ⟨b2, o2, e, hb, hr⟩ := h.1.sl.2 hn
    injection e with e
    injection e with e1 e2
    subst e1
    subst e2
    have ho := ho (by omega)
    subst ho
    refine ⟨_, _, rfl, hb, fun j u hu => ?_⟩
    have := hr (j + 1) u (by
      cases zs with
      | nil => simp at hl; omega
      | cons z zs => simpa [ints] using hu)
    rw [show 0 + (j + 1) = 1 + j by omega] at this
    exact this
  · have := h.2 _ rfl
    injection ha with ha
    subst ha
    exact this
/-- What stands ahead of the results. -/
structure HFin (w0 w wx : World) (S R M : Nat) (A1 : Option Addr) (n1 c1 : Nat) (A2 : Option Addr) (n2 c2 : Nat) (lo hi nw sup : IRow) : Prop where
  st : HSt w0 w wx S R M A1 n1 c1 A2 n2 c2 []
  lo : SlB wx (M + 1) lo.A lo.u lo.c lo.zs
  hi : SlB wx (M + 1) hi.A hi.u hi.c hi.zs
  nw : SlB wx (M + 1) nw.A nw.u nw.c nw.zs
  sup : SlB wx (M + 1) sup.A sup.u sup.c sup.zs
section
variable {w0 w wx wy : World} {S R M : Nat} {A1 A2 : Option Addr} {n1 c1 n2 c2 : Nat} {lo hi nw sup : IRow}
theorem HFin.next (h : HFin w0 w wx S R M A1 n1 c1 A2 n2 c2 lo hi nw sup) (B : HB w0 w S R M) (hd : Drw w0 wy S) (hc : Chg (fun j => j = S) wx wy) : HFin w0 w wy S R M A1 n1 c1 A2 n2 c2 lo hi nw sup :=
  have hS : ∀ k, k = S → k < M + 1 := fun k e => by have := B.b1; have := B.b4; omega
  ⟨h.st.next B hd hc, h.lo.chg hc hS, h.hi.chg hc hS, h.nw.chg hc hS, h.sup.chg hc hS⟩
theorem HFin.of {L : List IRow} (h : HSt w0 w wx S R M A1 n1 c1 A2 n2 c2 L) (h1 : lo ∈ L) (h2 : hi ∈ L) (h3 : nw ∈ L) (h4 : sup ∈ L) (u1 : lo.u ≤ 1048576) (u2 : hi.u ≤ 1048576) (u3 : nw.u ≤ 1048576) (u4 : sup.u ≤ 1048576) : HFin w0 w wx S R M A1 n1 c1 A2 n2 c2 lo hi nw sup :=
  ⟨h.sub (List.nil_sublist _), SlB.of_own (h.rows _ h1) u1, SlB.of_own (h.rows _ h2) u2, SlB.of_own (h.rows _ h3) u3, SlB.of_own (h.rows _ h4) u4⟩
/-- The results are written. -/
def putAll (W : World) (R : Nat) (a0 a1 b0 b1 b2 d0 d1 : Value) : World := ((((((W.setCell ⟨R, 0, none⟩ a0).setCell ⟨R, 1, none⟩ a1).setCell ⟨R + 1, 0, none⟩ b0).setCell ⟨R + 1, 1, none⟩ b1).setCell ⟨R + 1, 2, none⟩ b2).setCell ⟨R + 2, 0, none⟩ d0).setCell ⟨R + 2, 1, none⟩ d1
theorem HFin.fin {A5 : Option Addr} {m5 c5 base5 : Nat} {fl : List Int} (h : HFin w0 w wx S R M A1 n1 c1 A2 n2 c2 lo hi nw sup) (B : HB w0 w S R M) (hf : wx.ownsRow base5 2 1 (.slice A5 m5 c5) m5 (ints fl)) (h5 : M ≤ base5) (hm5 : m5 ≤ 1048576) {W' : World} (hW : W' = putAll wx R (.slice A1 n1 c1) (.slice A2 n2 c2) (.slice lo.A lo.u lo.c) (.slice hi.A hi.u hi.c) (.slice nw.A nw.u nw.c) (.slice A5 m5 c5) (.slice sup.A sup.u sup.c)) :
    (W'.heap[R]? = some (.cells #[.slice A1 n1 c1, .slice A2 n2 c2] 27 (0, 0)) ∧ W'.heap[R + 1]? = some (.cells #[.slice lo.A lo.u lo.c, .slice hi.A hi.u hi.c, .slice nw.A nw.u nw.c] 30 (0, 0)) ∧ W'.heap[R + 2]? = some (.cells #[.slice A5 m5 c5, .slice sup.A sup.u sup.c] 32 (0, 0))) ∧
    (∃ q, OwnNet W' w.heap.size A1 n1 c1 A2 n2 c2 q) ∧ SlB W' w.heap.size lo.A lo.u lo.c lo.zs ∧ SlB W' w.heap.size hi.A hi.u hi.c hi.zs ∧ SlB W' w.heap.size nw.A nw.u nw.c nw.zs ∧ SlB W' w.heap.size A5 m5 c5 fl ∧ SlB W' w.heap.size sup.A sup.u sup.c sup.zs ∧ Drw w0 W' S ∧ Chg (fun j => j = S) w W' := by
  subst hW
  obtain ⟨b1, b2, b3, b4⟩ := B
  have hcc : Chg (fun j => j = R ∨ j = R + 1 ∨ j = R + 2) wx (putAll wx R (.slice A1 n1 c1) (.slice A2 n2 c2) (.slice lo.A lo.u lo.c) (.slice hi.A hi.u hi.c) (.slice nw.A nw.u nw.c) (.slice A5 m5 c5) (.slice sup.A sup.u sup.c)) := by
    have c0 : ∀ (W : World) (j : Nat) (v : Value), Chg (fun j => j = R ∨ j = R + 1 ∨ j = R + 2) W (W.setCell ⟨R, j, none⟩ v) := fun W j v => chg_set W _ v (.inl rfl)
    have c1 : ∀ (W : World) (j : Nat) (v : Value), Chg (fun j => j = R ∨ j = R + 1 ∨ j = R + 2) W (W.setCell ⟨R + 1, j, none⟩ v) := fun W j v => chg_set W _ v (.inr (.inl rfl))
    have c2 : ∀ (W : World) (j : Nat) (v : Value), Chg (fun j => j = R ∨ j = R + 1 ∨ j = R + 2) W (W.setCell ⟨R + 2, j, none⟩ v) := fun W j v => chg_set W _ v (.inr (.inr rfl))
    exact ((((((c0 _ _ _).trans (c0 _ _ _)).trans (c1 _ _ _)).trans (c1 _ _ _)).trans (c1 _ _ _)).trans (c2 _ _ _)).trans (c2 _ _ _)
  obtain ⟨q, hO⟩ := h.st.net
  have hP : ∀ k, (k = R ∨ k = R + 1 ∨ k = R + 2) → k < M + 1 := fun k hk => by omega
  have hP5 : ∀ k, (k = R ∨ k = R + 1 ∨ k = R + 2) → k < base5 := fun k hk => by omega
  have g0 := h.st.z0
  have g1 := h.st.z1
  have g2 := h.st.z2
  refine ⟨⟨?_, ?_, ?_⟩, ⟨q, own_base (own_chg hO.nodes hcc (fun j hj e => by have := own_low hO.nodes hj; omega)) (by omega), own_base (own_chg hO.pipes hcc (fun j hj e => by have := own_low hO.pipes hj; omega)) (by omega), hO.names, hO.m1, hO.m2⟩, (h.lo.chg hcc hP).low (by omega), (h.hi.chg hcc hP).low (by omega), (h.nw.chg hcc hP).low (by omega), ((SlB.of_own hf hm5).chg hcc hP5).low (by omega), (h.sup.chg hcc hP).low (by omega), ?_, ?_⟩
  · simp [putAll, World.setCell, Array.getElem?_modify, g0]
  · simp [putAll, World.setCell, Array.getElem?_modify, g1]
  · simp [putAll, World.setCell, Array.getElem?_modify, g2]
  · have hd := h.st.dr
    have hs : ∀ (W : World) (g j : Nat) (v : Value), R ≤ g → Drw w0 W S → Drw w0 (W.setCell ⟨g, j, none⟩ v) S := fun W g j v hg hd => hd.set (by omega) (by omega)
    unfold putAll
    repeat' (refine hs _ _ _ _ (by omega) ?_)
    exact hd
  · have hd := h.st.ch
    have hs : ∀ (W : World) (g j : Nat) (v : Value), R ≤ g → Chg (fun j => j = S) w W → Chg (fun j => j = S) w (W.setCell ⟨g, j, none⟩ v) := fun W g j v hg hd => hd.fresh (by omega)
    unfold putAll
    repeat' (refine hs _ _ _ _ (by omega) ?_)
    exact hd
theorem HFin.of4 {A7 A8 A9 A10 : Option Addr} {u7 u8 u9 u10 c7 c8 c9 c10 : Nat} {z7 z8 z9 z10 : List Int} (h : HSt w0 w wx S R M A1 n1 c1 A2 n2 c2 [⟨A7, u7, c7, z7⟩, ⟨A8, u8, c8, z8⟩, ⟨A9, u9, c9, z9⟩, ⟨A10, u10, c10, z10⟩]) (h7 : u7 ≤ 1000) (h8 : u8 ≤ 1000) (h9 : u9 ≤ 1000) (h10 : u10 ≤ 1000) : HFin w0 w wx S R M A1 n1 c1 A2 n2 c2 ⟨A7, u7, c7, z7⟩ ⟨A8, u8, c8, z8⟩ ⟨A9, u9, c9, z9⟩ ⟨A10, u10, c10, z10⟩ :=
  HFin.of h (by simp) (by simp) (by simp) (by simp) (by dsimp only; omega) (by dsimp only; omega) (by dsimp only; omega) (by dsimp only; omega)
theorem HSt.celx {L : List IRow} {b u c k : Nat} {zs : List Int} {x : Int} (h : HSt w0 w wx S R M A1 n1 c1 A2 n2 c2 L) (hr : ⟨some ⟨b, 0, none⟩, u, c, zs⟩ ∈ L) (hx : zs[k]? = some x) : wx.cell? ⟨b, k, none⟩ = some (.int .i64 x) := (own_int (h.rows _ hr) hx).1
theorem HSt.form {L : List IRow} {A : Option Addr} {u c : Nat} {zs : List Int} (h : HSt w0 w wx S R M A1 n1 c1 A2 n2 c2 L) (hr : ⟨A, u, c, zs⟩ ∈ L) {k : Nat} (hk : k < u) : ∃ b, ∃ x : Int, A = some ⟨b, 0, none⟩ ∧ M + 1 ≤ b ∧ zs[k]? = some x := by
  have ho := h.rows _ hr
  obtain ⟨b, e, hb, _⟩ := own_form ho (Nat.zero_lt_of_lt hk)
  have hl := own_ilen ho
  exact ⟨b, _, e, hb, List.getElem?_eq_getElem (by simp only at hl; omega)⟩
theorem hr_lit {w W : World} {P : Nat → Prop} (a b : Int) {y : Int} (hc : Chg P (w.alloc (.cells #[.int .i64 a, .int .i64 b] 2)) W) (hn : ¬ P w.heap.size) (h0 : 0 ≤ y) (h1 : y < 2) : ∃ v : Int, W.cell? ⟨w.heap.size, y.toNat, none⟩ = some (.int .i64 v) := by
  have hb := rb_chg (heap_alloc_new w _) hc hn
  rcases (show y = 0 ∨ y = 1 by omega) with rfl | rfl
  · exact ⟨a, rb_cell hb rfl⟩
  · exact ⟨b, rb_cell hb rfl⟩
theorem HSt.frozen {L' : List IRow} (h : HSt w0 w wx S R M A1 n1 c1 A2 n2 c2 L') (k : Nat) : wx.frozen? ⟨R, k, none⟩ = false ∧ wx.frozen? ⟨R + 1, k, none⟩ = false ∧ wx.frozen? ⟨R + 2, k, none⟩ = false := ⟨rb_frozen h.z0 k, rb_frozen h.z1 k, rb_frozen h.z2 k⟩
end
theorem putAll_chg (W : World) (R : Nat) (a0 a1 b0 b1 b2 d0 d1 : Value) : Chg (fun j => j = R ∨ j = R + 1 ∨ j = R + 2) W (putAll W R a0 a1 b0 b1 b2 d0 d1) := by
  have y0 : ∀ (W : World) (j : Nat) (v : Value), Chg (fun j => j = R ∨ j = R + 1 ∨ j = R + 2) W (W.setCell ⟨R, j, none⟩ v) := fun W j v => chg_set W _ v (.inl rfl)
  have y1 : ∀ (W : World) (j : Nat) (v : Value), Chg (fun j => j = R ∨ j = R + 1 ∨ j = R + 2) W (W.setCell ⟨R + 1, j, none⟩ v) := fun W j v => chg_set W _ v (.inr (.inl rfl))
  have y2 : ∀ (W : World) (j : Nat) (v : Value), Chg (fun j => j = R ∨ j = R + 1 ∨ j = R + 2) W (W.setCell ⟨R + 2, j, none⟩ v) := fun W j v => chg_set W _ v (.inr (.inr rfl))
  exact ((((((y0 _ _ _).trans (y0 _ _ _)).trans (y1 _ _ _)).trans (y1 _ _ _)).trans (y1 _ _ _)).trans (y2 _ _ _)).trans (y2 _ _ _)
/-- The end of the whole draw: the results stand at R. -/
theorem hour_end {w w1 w2 w3 W' : World} {S R : Nat} {A1 A2 : Option Addr} {n1 c1 n2 c2 : Nat} {q : GNet} {lo hi nw fl sup : IRow} (hg1 : Gr w w1) (hRw : w.heap.size ≤ R) (z0 : w1.heap[R]? = some (.cells #[.slice none 0 0, .slice none 0 0] 27 (0, 0))) (z1 : w1.heap[R + 1]? = some (.cells #[.slice none 0 0, .slice none 0 0, .slice none 0 0] 30 (0, 0))) (z2 : w1.heap[R + 2]? = some (.cells #[.slice none 0 0, .slice none 0 0] 32 (0, 0))) (h12 : Gr w1 w2) (hd3 : Drw w1 w3 S)
    (hO : OwnNet w3 w2.heap.size A1 n1 c1 A2 n2 c2 q) (h1 : SlB w3 w2.heap.size lo.A lo.u lo.c lo.zs) (h2 : SlB w3 w2.heap.size hi.A hi.u hi.c hi.zs) (h3 : SlB w3 w2.heap.size nw.A nw.u nw.c nw.zs) (h4 : SlB w3 w2.heap.size fl.A fl.u fl.c fl.zs) (h5 : SlB w3 w2.heap.size sup.A sup.u sup.c sup.zs)
    (hW : W' = putAll w3 R (.slice A1 n1 c1) (.slice A2 n2 c2) (.slice lo.A lo.u lo.c) (.slice hi.A hi.u hi.c) (.slice nw.A nw.u nw.c) (.slice fl.A fl.u fl.c) (.slice sup.A sup.u sup.c)) :
    (W'.heap[R]? = some (.cells #[.slice A1 n1 c1, .slice A2 n2 c2] 27 (0, 0)) ∧ W'.heap[R + 1]? = some (.cells #[.slice lo.A lo.u lo.c, .slice hi.A hi.u hi.c, .slice nw.A nw.u nw.c] 30 (0, 0)) ∧ W'.heap[R + 2]? = some (.cells #[.slice fl.A fl.u fl.c, .slice sup.A sup.u sup.c] 32 (0, 0))) ∧
    NetAt W' A1 n1 c1 A2 n2 c2 q ∧ SlAt W' 1 lo.A lo.u lo.c (ints lo.zs) ∧ SlAt W' 1 hi.A hi.u hi.c (ints hi.zs) ∧ SlAt W' 1 nw.A nw.u nw.c (ints nw.zs) ∧ SlAt W' 1 fl.A fl.u fl.c (ints fl.zs) ∧ SlAt W' 1 sup.A sup.u sup.c (ints sup.zs) ∧ Gr w W' := by
  have hcc := putAll_chg w3 R (.slice A1 n1 c1) (.slice A2 n2 c2) (.slice lo.A lo.u lo.c) (.slice hi.A hi.u hi.c) (.slice nw.A nw.u nw.c) (.slice fl.A fl.u fl.c) (.slice sup.A sup.u sup.c)
  have hb2 := rb_lt z2
  have hsz := h12.size
  have hP : ∀ k, (k = R ∨ k = R + 1 ∨ k = R + 2) → k < w2.heap.size := fun k hk => by omega
  have g0 := (hd3.gr.below.block _ (rb_lt z0)).trans z0
  have g1 := (hd3.gr.below.block _ (rb_lt z1)).trans z1
  have g2 := (hd3.gr.below.block _ (rb_lt z2)).trans z2
  subst hW
  have hO' : OwnNet (putAll w3 R (.slice A1 n1 c1) (.slice A2 n2 c2) (.slice lo.A lo.u lo.c) (.slice hi.A hi.u hi.c) (.slice nw.A nw.u nw.c) (.slice fl.A fl.u fl.c) (.slice sup.A sup.u sup.c)) w2.heap.size A1 n1 c1 A2 n2 c2 q := ⟨own_chg hO.nodes hcc (fun j hj e => by have := own_low hO.nodes hj; omega), own_chg hO.pipes hcc (fun j hj e => by have := own_low hO.pipes hj; omega), hO.names, hO.m1, hO.m2⟩
  refine ⟨⟨?_, ?_, ?_⟩, hO'.at_, (h1.chg hcc hP).1, (h2.chg hcc hP).1, (h3.chg hcc hP).1, (h4.chg hcc hP).1, (h5.chg hcc hP).1, (hg1.trans hd3.gr).of_chg hcc (fun k hk => by omega)⟩
  · simp [putAll, World.setCell, Array.getElem?_modify, g0]
  · simp [putAll, World.setCell, Array.getElem?_modify, g1]
  · simp [putAll, World.setCell, Array.getElem?_modify, g2]
theorem results_cell3 {P : Program} {fn : Func} {p u v : Tmp} {ty1 ty2 ty3 : TypeId} (h : fn.results = #[.cell p ty1, .cell u ty2, .cell v ty3]) (tmps : Array Value) (w : World) (g1 g2 g3 : Nat) (t1 t2 t3 : TypeId) (cs1 cs2 cs3 : Array Value) (fr1 fr2 fr3 : Nat × Nat) (d1 d2 d3 : TypeDesc)
    (hp1 : tmps.getD p undef = .pointer (some ⟨g1, 0, none⟩)) (hp2 : tmps.getD u undef = .pointer (some ⟨g2, 0, none⟩)) (hp3 : tmps.getD v undef = .pointer (some ⟨g3, 0, none⟩))
    (hg1 : w.heap[g1]? = some (.cells cs1 t1 fr1)) (hg2 : w.heap[g2]? = some (.cells cs2 t2 fr2)) (hg3 : w.heap[g3]? = some (.cells cs3 t3 fr3))
    (hu1 : P.underlying ty1 = some d1) (hd1 : (match d1 with | .struct _ | .array _ _ => true | _ => false) = true) (hi1 : (P.info? ty1).map (·.size) = some cs1.size)
    (hu2 : P.underlying ty2 = some d2) (hd2 : (match d2 with | .struct _ | .array _ _ => true | _ => false) = true) (hi2 : (P.info? ty2).map (·.size) = some cs2.size)
    (hu3 : P.underlying ty3 = some d3) (hd3 : (match d3 with | .struct _ | .array _ _ => true | _ => false) = true) (hi3 : (P.info? ty3).map (·.size) = some cs3.size) :
    (results fn tmps).run P w = .ok (.tuple #[.agg cs1, .agg cs2, .agg cs3]) w := by
  have hp1' : tmps[p]?.getD undef = .pointer (some ⟨g1, 0, none⟩) := by simpa using hp1
  have hp2' : tmps[u]?.getD undef = .pointer (some ⟨g2, 0, none⟩) := by simpa using hp2
  have hp3' : tmps[v]?.getD undef = .pointer (some ⟨g3, 0, none⟩) := by simpa using hp3
  simp [results, h, hp1', hp2', hp3', asAddr, run_loadVar_row w g1 t1 ty1 cs1 fr1 d1 hg1 hu1 hd1 hi1, run_loadVar_row w g2 t2 ty2 cs2 fr2 d2 hg2 hu2 hd2 hi2, run_loadVar_row w g3 t3 ty3 cs3 fr3 d3 hg3 hu3 hd3 hi3]
end Go.Proofs.Ytbbecboihmmllaa
/-
  The draw of an hour. Printed by gen_hr10.py.
-/
set_option linter.unusedSimpArgs false
set_option linter.unusedVariables false
namespace Go.Proofs.Ytbbecboihmmllaa
open Go.ChangeShapes Go.WideShapes Go.ChangeAt Go.RowKit

set_option maxHeartbeats 6400000 in
set_option maxRecDepth 100000 in
theorem l19Draw_any {w0 w : World} {S : Nat} (h : Drw w0 w S) :
    Calls Try.prog 16 #[.pointer (some ⟨S, 0, none⟩)] w fun e w' => ∃ A1 n1 c1 A2 n2 c2 q, ∃ lo hi nw fl sup : IRow, e = .returned (.tuple #[.agg #[.slice A1 n1 c1, .slice A2 n2 c2], .agg #[.slice lo.A lo.u lo.c, .slice hi.A hi.u hi.c, .slice nw.A nw.u nw.c], .agg #[.slice fl.A fl.u fl.c, .slice sup.A sup.u sup.c]]) ∧ OwnNet w' w.heap.size A1 n1 c1 A2 n2 c2 q ∧ SlB w' w.heap.size lo.A lo.u lo.c lo.zs ∧ SlB w' w.heap.size hi.A hi.u hi.c hi.zs ∧ SlB w' w.heap.size nw.A nw.u nw.c nw.zs ∧ SlB w' w.heap.size fl.A fl.u fl.c fl.zs ∧ SlB w' w.heap.size sup.A sup.u sup.c sup.zs ∧ Drw w0 w' S ∧ Chg (fun k => k = S) w w' := by
  obtain ⟨i0, hi0, hz0, hz1, hz2⟩ := info_parts infoInt64
  have hlt := h.lt
  have hbw := h.gr.size
  have H := Lib.hid h
  clear h
  go_enter Try.func16, Try.ntmps16
  go_upto_region 1 with fail
  obtain ⟨z0, z1, z2, hs1, hg1⟩ := three_new w (.cells #[.slice none 0 0, .slice none 0 0] 27) (.cells #[.slice none 0 0, .slice none 0 0, .slice none 0 0] 30) (.cells #[.slice none 0 0, .slice none 0 0] 32)
  generalize hw1 : World.alloc (World.alloc (World.alloc w _) _) _ = w1
  rw [hw1] at z0 z1 z2 hs1 hg1
  obtain ⟨R, hRe⟩ : ∃ R, R = w.heap.size := ⟨_, rfl⟩
  rw [← hRe] at z0 z1 z2 hs1 ⊢
  have hSR : S < R := by omega
  have hRw : w.heap.size ≤ R := by omega
  have hRw0 : w0.heap.size ≤ R := by omega
  have Z0 := Lib.hid z0
  have Z1 := Lib.hid z1
  have Z2 := Lib.hid z2
  have Hs1 := Lib.hid hs1
  clear hw1 hRe z0 z1 z2 hs1
  go_wp2_with fail
  refine (l05DrawChord_any (H.out.grow hg1)).mono ?_
  rintro e w2 ⟨A1, n1, c1, A2, n2, c2, n, xx, rfl, hown, ⟨hn7, hn9⟩, hd2, hc2⟩
  rw [Hs1.out] at hown
  have hs2 := hc2.size
  rw [Hs1.out] at hs2
  have hcc2 := (hg1.chg (fun k => k = S)).trans hc2
  obtain ⟨M, hM⟩ : ∃ M, M = w2.heap.size := ⟨_, rfl⟩
  have hMb : R + 2 < M := by omega
  have B : HB w0 w S R M := ⟨hSR, hRw, hRw0, hMb⟩
  generalize hw3 : World.alloc w2 (.cells #[.slice A1 n1 c1, .slice A2 n2 c2] 27) = w3
  have hg3 : Gr w2 w3 := by rw [← hw3]; exact (Gr.refl _).alloc _
  have hM3 : w3.heap[M]? = some (.cells #[.slice A1 n1 c1, .slice A2 n2 c2] 27 (0, 0)) := by rw [← hw3, hM]; exact heap_alloc_new w2 _
  have hs3 : M < w3.heap.size := rb_lt hM3
  have HS3 : Hid (HSt w0 w w3 S R M A1 n1 c1 A2 n2 c2 []) := Lib.hid (by
    have e0 := rb_chg Z0.out hc2 (by omega)
    have e1 := rb_chg Z1.out hc2 (by omega)
    have e2 := rb_chg Z2.out hc2 (by omega)
    exact ⟨⟨n, hown.gr hg3⟩, hM3, (hg3.below.block _ (rb_lt e0)).trans e0, (hg3.below.block _ (rb_lt e1)).trans e1, (hg3.below.block _ (rb_lt e2)).trans e2, hd2.grow hg3, hcc2.trans (hg3.chg _), fun r hr => (by cases hr), List.Pairwise.nil⟩)
  have hs3e : Hid (w3.heap.size = M + 1) := Lib.hid (by rw [← hw3, hM]; simp)
  have Hw3 := Lib.hid hw3
  have HMe := Lib.hid hM
  have HBB := Lib.hid B
  clear hw3 hM hM3 hg3 hc2 hown hd2 hcc2 hs2 hg1 Z0 Z1 Z2 Hs1 B
  go_wp2_with fail
  rw [Hw3.out, ← HMe.out]
  have HS4 := HS3.out.four
  rw [hs3e.out] at HS4
  replace HS4 := Lib.hid HS4
  clear HS3
  go_loopw [7, 8, 9, 10, 11] (fun a b c d i wr => ∃ k : Nat, k ≤ n1 ∧ i = .int .i64 k ∧ ∃ A7 c7 z7 A8 c8 z8 A9 c9 z9 A10 c10 z10, a = .slice A7 k c7 ∧ b = .slice A8 k c8 ∧ c = .slice A9 k c9 ∧ d = .slice A10 k c10 ∧ HSt w0 w wr S R M A1 n1 c1 A2 n2 c2 [⟨A7, k, c7, z7⟩, ⟨A8, k, c8, z8⟩, ⟨A9, k, c9, z9⟩, ⟨A10, k, c10, z10⟩]) (fun _ _ _ _ i _ => n1 - (intOf i).toNat)
  case atStart => exact ⟨0, Nat.zero_le _, rfl, _, _, _, _, _, _, _, _, _, _, _, _, rfl, rfl, rfl, rfl, HS4.out⟩
  case round =>
    obtain ⟨k, hk, rfl, A7, c7, z7, A8, c8, z8, A9, c9, z9, A10, c10, z10, rfl, rfl, rfl, rfl, hN⟩ := hrel
    have HN := Lib.hid hN
    have m0 := hN.m0
    clear hN HS4
    by_cases hkn : k < n1
    · have t1 : (k : Int) < (n1 : Int) := by omega
      have t0 : (0 : Int) ≤ (k : Int) := by omega
      rename World => wr
      go_wp2_with fail
      refine (l01Next_any 30 HN.out.dr (by omega)).mono ?_
      rintro e v7 ⟨x, rfl, hx, hd7, hc7⟩
      obtain ⟨x0, x1⟩ := hx.lt (by omega)
      have H7 := Lib.hid (HN.out.next HBB.out hd7 hc7)
      have O7 := Lib.hid H7.out.own
      have hs7 := rb_lt H7.out.hM
      clear hx hd7 hc7 HN m0
      go_wp2_with (at_builtin; (refine wpList_append_own_at _ rfl _ _ _ rfl (M + 1) 2 i0 _ 1 8 Try.underlying28 hi0 hz0 hz1 hz2 rfl (by omega) _ k _ rfl (O7.out.alloc _) ⟨v7.heap.size, 0, none⟩ 1 1 [.int .i64 x] rfl rfl (World.news_of_block (cs := #[.int .i64 x]) (t := 2) (fr := (0, 0)) (heap_alloc_new v7 _)) (by simp [Value.oneCell']) (by unfold maxLen; omega) (by omega) (by simp; omega) ?_; intro v' w8 hown8 hg8 _ hat8))
      obtain ⟨B7, d7, rfl⟩ := own_shape hown8
      have H8 := Lib.hid ((H7.out.gr ((Gr.refl _).alloc (.cells #[.int .i64 x] 2))).add HBB.out hown8 hg8 hat8).rot4
      clear hown8 hg8 hat8 H7 O7 hs7
      obtain ⟨b7, hb7, hbM⟩ := H8.out.last4
      subst hb7
      have q0 := (H8.out.gr (Gr.refl w8).drew).lastc4
      have D8 := Lib.hid (H8.out.gr (Gr.refl w8).drew)
      have hbS : b7 ≠ S := by omega
      have t2 : (k : Int) < (k : Int) + 1 := by omega
      have t3 : (k : Int) < ((k + 1 : Nat) : Int) := by omega
      clear H8
      go_wp2_with fail
      go_region_held3 (fun W => W.cell? ⟨b7, k, none⟩ = some (.int .i64 x))
        (first | with_reducible exact q0 | with_reducible exact q1 | with_reducible exact q2 | with_reducible exact q3)
        (first
          | (go_at_call 37; with_reducible refine (l01Next_any 300 D8.out.dr (by omega)).mono ?_; rintro e v8 ⟨y, rfl, hy, hd8, hc8⟩; obtain ⟨ya, yb⟩ := hy.lt (by omega); obtain ⟨z, hz⟩ : ∃ z, x + y = z := ⟨_, rfl⟩; have hwy : IntKind.i64.wrap (x + y) = z := (IntWalk.i64_in _ (by omega)).trans hz; have hzb : x ≤ z ∧ z < x + 300 := (by omega); have q1 := chg_cell' hc8 q0 (by simp only; omega); have q2 := ((Gr.refl v8).alloc (.cells #[.int .i64 z] 2)).has q1; have E8 := Lib.hid (D8.out.next HBB.out hd8 hc8); have O8 := Lib.hid E8.out.own; have hs8 := rb_lt E8.out.hM; clear hz hy hd8 hc8)
          | (refine step_append_lies _ (by rfl) _ _ _ (by rfl) (M + 1) 2 i0 _ 1 8 Try.underlying28 hi0 hz0 hz1 hz2 rfl (by omega) _ k _ (by rfl) (O8.out.alloc _) ⟨v8.heap.size, 0, none⟩ 1 1 [.int .i64 z] (by rfl) (by rfl) (World.news_of_block (cs := #[.int .i64 z]) (t := 2) (fr := (0, 0)) (heap_alloc_new v8 _)) (by simp [Value.oneCell']) (by omega) (by unfold maxLen; omega) (by omega) (by simp; omega) (v8.heap.size + 1) (by simp) ?_; intro g9 e9 w9 hown2 hg2 hat2 hlt2; have H9 := Lib.hid ((E8.out.gr ((Gr.refl _).alloc (.cells #[.int .i64 z] 2))).add2 HBB.out hown2 hg2 (by simpa using hat2)).rot4; have q3 := H9.out.lastc3; clear hown2 hg2 hat2 hlt2))
      clear q0 q1 q2 q3 hwy ya yb D8 E8 O8 hs8
      have q0 := (H9.out.gr (Gr.refl w9).drew).lastc3
      have r0 := (H9.out.gr (Gr.refl w9).drew).lastc4
      have D9 := Lib.hid (H9.out.gr (Gr.refl w9).drew)
      obtain ⟨_, ge, hgM⟩ := H9.out.last4
      cases ge
      have hgS : g9 ≠ S := by omega
      have hw1 : IntKind.i64.wrap (z - x) = z - x := IntWalk.i64_in _ (by omega)
      have hw2 : IntKind.i64.wrap (z - x + 1) = z - x + 1 := IntWalk.i64_in _ (by omega)
      clear H9
      go_wp2_with fail
      go_region_held3 (fun W => W.cell? ⟨b7, k, none⟩ = some (.int .i64 x) ∧ W.cell? ⟨g9, k, none⟩ = some (.int .i64 z))
        (first | with_reducible exact ⟨q0, r0⟩ | with_reducible exact ⟨q1, r1⟩ | with_reducible exact ⟨q2, r2⟩ | with_reducible exact ⟨q3, r3⟩)
        (first
          | (go_at_call 37; with_reducible refine (l01Next_any (z - x + 1) D9.out.dr (by omega)).mono ?_; rintro e v9 ⟨y, rfl, hy, hd9, hc9⟩; obtain ⟨ya, yb⟩ := hy.below (by omega); obtain ⟨t, ht⟩ : ∃ t, x + y = t := ⟨_, rfl⟩; have hwt : IntKind.i64.wrap (x + y) = t := (IntWalk.i64_in _ (by omega)).trans ht; have q1 := chg_cell' hc9 q0 (by simp only; omega); have r1 := chg_cell' hc9 r0 (by simp only; omega); have q2 := ((Gr.refl v9).alloc (.cells #[.int .i64 t] 2)).has q1; have r2 := ((Gr.refl v9).alloc (.cells #[.int .i64 t] 2)).has r1; have E9 := Lib.hid (D9.out.next HBB.out hd9 hc9); have O9 := Lib.hid E9.out.own; have hs9 := rb_lt E9.out.hM; clear ht hy hd9 hc9)
          | (refine step_append_lies _ (by rfl) _ _ _ (by rfl) (M + 1) 2 i0 _ 1 8 Try.underlying28 hi0 hz0 hz1 hz2 rfl (by omega) _ k _ (by rfl) (O9.out.alloc _) ⟨v9.heap.size, 0, none⟩ 1 1 [.int .i64 t] (by rfl) (by rfl) (World.news_of_block (cs := #[.int .i64 t]) (t := 2) (fr := (0, 0)) (heap_alloc_new v9 _)) (by simp [Value.oneCell']) (by omega) (by unfold maxLen; omega) (by omega) (by simp; omega) (v9.heap.size + 1) (by simp) ?_; intro g10 e10 w10 hown2 hg2 hat2 hlt2; have H10 := Lib.hid ((E9.out.gr ((Gr.refl _).alloc (.cells #[.int .i64 t] 2))).add2 HBB.out hown2 hg2 (by simpa using hat2)).rot4; have q3 := H10.out.lastc2; have r3 := H10.out.lastc3; clear hown2 hg2 hat2 hlt2))
      clear q0 q1 q2 q3 r0 r1 r2 r3 hwt ya yb hw1 hw2 D9 E9 O9 hs9 t2 t3 hbS hgS hbM hgM hzb
      go_wp2_with fail
      refine (l01Next_any 40 H10.out.dr (by omega)).mono ?_
      rintro e v10 ⟨y, rfl, hy, hd10, hc10⟩
      obtain ⟨ya, yb⟩ := hy.lt (by omega)
      have hw1 : IntKind.i64.wrap (y - 20) = y - 20 := IntWalk.i64_in _ (by omega)
      have H11 := Lib.hid (H10.out.next HBB.out hd10 hc10)
      have O11 := Lib.hid H11.out.own
      have hs11 := rb_lt H11.out.hM
      clear hy hd10 hc10 H10
      go_wp2_with (at_builtin; (refine wpList_append_own_at _ rfl _ _ _ rfl (M + 1) 2 i0 _ 1 8 Try.underlying28 hi0 hz0 hz1 hz2 rfl (by omega) _ k _ rfl (O11.out.alloc _) ⟨v10.heap.size, 0, none⟩ 1 1 [.int .i64 (y - 20)] rfl rfl (World.news_of_block (cs := #[.int .i64 (y - 20)]) (t := 2) (fr := (0, 0)) (heap_alloc_new v10 _)) (by simp [Value.oneCell']) (by unfold maxLen; omega) (by omega) (by simp; omega) ?_; intro v' w8 hown8 hg8 _ hat8))
      obtain ⟨B10, d10, rfl⟩ := own_shape hown8
      have H12 := Lib.hid ((H11.out.gr ((Gr.refl _).alloc (.cells #[.int .i64 (y - 20)] 2))).add HBB.out hown8 hg8 hat8).rot4
      clear hown8 hg8 hat8 H11 O11 hs11 hw1
      go_wp2_with fail
      go_roundw
      case rel => exact ⟨k + 1, by omega, by go_num, _, _, _, _, _, _, _, _, _, _, _, _, rfl, rfl, rfl, rfl, H12.out⟩
      case measure => simp [intOf]; omega
    · obtain rfl : n1 = k := by omega
      go_wp2_with fail
      clear m0
      go_loopw [12] (fun i wr => ∃ k : Nat, k ≤ n2 ∧ i = .int .i64 k ∧ HSt w0 w wr S R M A1 n1 c1 A2 n2 c2 [⟨A7, n1, c7, z7⟩, ⟨A8, n1, c8, z8⟩, ⟨A9, n1, c9, z9⟩, ⟨A10, n1, c10, z10⟩]) (fun i _ => n2 - (intOf i).toNat)
      case atStart => exact ⟨0, Nat.zero_le _, rfl, HN.out⟩
      case round =>
        obtain ⟨k, hk2, rfl, hN⟩ := hrel
        have HNp := Lib.hid hN
        have m1 := hN.m1
        clear hN HN
        by_cases hkn2 : k < n2
        · obtain ⟨g, hg⟩ := HNp.out.g2 (by omega)
          subst hg
          have t1 : (k : Int) < (n2 : Int) := by omega
          have t0 : (0 : Int) ≤ (k : Int) := by omega
          go_wp2_with fail
          refine (l01Next_any 3 HNp.out.dr (by omega)).mono ?_
          rintro e w5 ⟨x, rfl, hx, hd5, hc5⟩
          have HN5 := Lib.hid (HNp.out.next HBB.out hd5 hc5)
          clear hd5 hc5 HNp m1
          by_cases hx0 : 0 < x
          · have tx : decide (0 < x) = true := decide_eq_true hx0
            have m1 := HN5.out.m1
            obtain ⟨⟨v0, p4⟩, f4⟩ := HN5.out.fp hkn2
            have Ex : Hid (∀ v : Int, HSt w0 w (w5.drew.setCell ⟨g, k * 5 + 4, none⟩ (.int .i64 v)) S R M A1 n1 c1 (some ⟨g, 0, none⟩) n2 c2 [⟨A7, n1, c7, z7⟩, ⟨A8, n1, c8, z8⟩, ⟨A9, n1, c9, z9⟩, ⟨A10, n1, c10, z10⟩]) := Lib.hid (fun v => (HN5.out.gr (Gr.refl _).drew).lim HBB.out hkn2 v)
            clear hx
            go_wp2_with fail
            go_region
            go_wp2_with fail
            go_roundw
            case rel => exact ⟨k + 1, by omega, by go_num, Ex.out _⟩
            case measure => simp [intOf]; omega
          · have tx : decide (0 < x) = false := decide_eq_false hx0
            clear hx
            go_wp2_with fail
            go_roundw
            case rel => exact ⟨k + 1, by omega, by go_num, HN5.out⟩
            case measure => simp [intOf]; omega
        · obtain rfl : n2 = k := by omega
          go_upto_if 95 with fail
          clear m1
          go_cut [7, 10] from 93 (fun lo su wx => ∃ A7' m7 c7' z7' z8' z9' A10' m10 c10' z10', lo = .slice A7' m7 c7' ∧ su = .slice A10' m10 c10' ∧ HFin w0 w wx S R M A1 n1 c1 A2 n2 c2 ⟨A7', m7, c7', z7'⟩ ⟨A8, n1, c8, z8'⟩ ⟨A9, n1, c9, z9'⟩ ⟨A10', m10, c10', z10'⟩)
          case first =>
            by_cases hn0 : 0 < n1
            · have tn : decide ((0 : Int) < (n1 : Int)) = true := by simp; omega
              go_wp2_with fail
              refine (l01Next_any 30 HNp.out.dr (by omega)).mono ?_
              rintro e w6 ⟨t, rfl, ht, hd6, hc6⟩
              have HN6 := Lib.hid (HNp.out.next HBB.out hd6 hc6)
              clear ht hd6 hc6 HNp
              by_cases h0 : t = 0
              · subst h0
                obtain ⟨b7, x, e7, hb7, hx7⟩ := HN6.out.form (A := A7) (u := n1) (c := c7) (zs := z7) (by simp) (k := 0) hn0
                obtain ⟨b8, y, e8, hb8, hx8⟩ := HN6.out.form (A := A8) (u := n1) (c := c8) (zs := z8) (by simp) (k := 0) hn0
                obtain ⟨b9, y9, e9, hb9, hx9⟩ := HN6.out.form (A := A9) (u := n1) (c := c9) (zs := z9) (by simp) (k := 0) hn0
                subst e7
                subst e8
                subst e9
                obtain ⟨e1, he1⟩ : ∃ e, IntKind.i64.wrap (x - 1) = e := ⟨_, rfl⟩
                obtain ⟨e2, he2⟩ : ∃ e, IntKind.i64.wrap (y + 1) = e := ⟨_, rfl⟩
                have G0 := Lib.hid (HN6.out.rot4.rot4.gr (Gr.refl w6).drew)
                have Hx9 := Lib.hid hx9
                have kp : ∀ (W : World) (r : IRow), HSt w0 w W S R M A1 n1 c1 A2 n2 c2 (r :: [⟨A10, n1, c10, z10⟩, ⟨some ⟨b7, 0, none⟩, n1, c7, z7⟩, ⟨some ⟨b8, 0, none⟩, n1, c8, z8⟩]) → (W.cell? ⟨b7, 0, none⟩ = some (.int .i64 x) ∧ W.cell? ⟨b8, 0, none⟩ = some (.int .i64 y)) := fun W r q => ⟨q.celx (u := n1) (c := c7) (zs := z7) (by simp) hx7, q.celx (u := n1) (c := c8) (zs := z8) (by simp) hx8⟩
                have GA := Lib.hid (G0.out.gr ((Gr.refl w6.drew).alloc (.cells #[.int .i64 e1, .int .i64 e2] 2)))
                have hs6 : S < w6.heap.size := by have := rb_lt HN6.out.hM; omega
                have t2 : (0 : Int) < (n1 : Int) := by omega
                clear HN6 tn hx7 hx8 hx9
                go_upto_region 19 with fail
                refine wp_region_noPanic ?_
                refine wp_region_held_drew (S := (fun W : World => W.cell? ⟨b7, 0, none⟩ = some (.int .i64 x) ∧ W.cell? ⟨b8, 0, none⟩ = some (.int .i64 y))) (by kernel_rfl) ?_ (fun hHeld => ?_)
                · exact kp _ _ G0.out
                refine wpAnyH_take (i := 0) (oi := _) (v := ?v1) rfl (by kernel_rfl) (by kernel_rfl) (by kernel_rfl) (fun _ _ _ h => h) (Or.inl ⟨by rfl, ?hy1⟩) (by assumption) ?rest1
                case hy1 => (intro W hSw; (try dsimp only at hSw); first | (go_simp; done) | (go_simp; with_reducible rfl))
                try simp only [Act.put, List.setIfInBounds_toArray, List.set_cons_zero, List.set_cons_succ]
                refine wpAnyH_take (i := 1) (oi := _) (v := ?v2) rfl (by kernel_rfl) (by kernel_rfl) (by kernel_rfl) (fun _ _ _ h => h) (Or.inl ⟨by rfl, ?hy2⟩) (by assumption) ?rest2
                case hy2 => (intro W hSw; (try dsimp only at hSw); first | (go_simp; done) | (go_simp; with_reducible rfl))
                try simp only [Act.put, List.setIfInBounds_toArray, List.set_cons_zero, List.set_cons_succ]
                refine wpAnyH_take (i := 2) (oi := _) (v := ?v3) rfl (by kernel_rfl) (by kernel_rfl) (by kernel_rfl) (fun _ _ _ h => h) (Or.inl ⟨by rfl, ?hy3⟩) (by assumption) ?rest3
                case hy3 => (intro W hSw; (try dsimp only at hSw); first | (go_simp; done) | (go_simp; with_reducible rfl))
                try simp only [Act.put, List.setIfInBounds_toArray, List.set_cons_zero, List.set_cons_succ]
                refine wpAnyH_take (i := 3) (oi := _) (v := ?v4) rfl (by kernel_rfl) (by kernel_rfl) (by kernel_rfl) (fun _ _ _ h => h) (Or.inl ⟨by rfl, ?hy4⟩) (by assumption) ?rest4
                case hy4 => (intro W hSw; (try dsimp only at hSw); first | (go_simp; done) | (go_simp; with_reducible rfl))
                try simp only [Act.put, List.setIfInBounds_toArray, List.set_cons_zero, List.set_cons_succ]
                refine wpAnyH_take (i := 4) (oi := _) (v := ?v5) rfl (by kernel_rfl) (by kernel_rfl) (by kernel_rfl) (fun _ _ _ h => h) (Or.inl ⟨by rfl, ?hy5⟩) (by assumption) ?rest5
                case hy5 => (intro W hSw; (try dsimp only at hSw); first | (go_simp; done) | (go_simp; with_reducible rfl))
                try simp only [Act.put, List.setIfInBounds_toArray, List.set_cons_zero, List.set_cons_succ]
                refine wpAnyH_take (i := 5) (oi := _) (v := ?v6) rfl (by kernel_rfl) (by kernel_rfl) (by kernel_rfl) (fun _ _ _ h => h) (Or.inl ⟨by rfl, ?hy6⟩) (by assumption) ?rest6
                case hy6 => (intro W hSw; (try dsimp only at hSw); first | (go_simp; done) | (go_simp; with_reducible rfl))
                try simp only [Act.put, List.setIfInBounds_toArray, List.set_cons_zero, List.set_cons_succ]
                refine wpAnyH_take (i := 6) (oi := _) (v := ?v7) rfl (by kernel_rfl) (by kernel_rfl) (by kernel_rfl) (fun _ _ _ h => h) (Or.inl ⟨by rfl, ?hy7⟩) (by assumption) ?rest7
                case hy7 => (intro W hSw; (try dsimp only at hSw); first | (go_simp; done) | (go_simp; with_reducible rfl))
                try simp only [Act.put, List.setIfInBounds_toArray, List.set_cons_zero, List.set_cons_succ]
                refine wpAnyH_take (i := 7) (oi := _) (v := ?v8) rfl (by kernel_rfl) (by kernel_rfl) (by kernel_rfl) (fun _ _ _ h => h) (Or.inl ⟨by rfl, ?hy8⟩) (by assumption) ?rest8
                case hy8 => (intro W hSw; (try dsimp only at hSw); first | (go_simp; done) | (go_simp; with_reducible rfl))
                try simp only [Act.put, List.setIfInBounds_toArray, List.set_cons_zero, List.set_cons_succ]
                refine wpAnyH_take (i := 8) (oi := _) (v := ?v9) rfl (by kernel_rfl) (by kernel_rfl) (by kernel_rfl) (fun _ _ _ h => h) (Or.inl ⟨by rfl, ?hy9⟩) (by assumption) ?rest9
                case hy9 => (intro W hSw; (try dsimp only at hSw); first | (go_simp; done) | (go_simp; with_reducible rfl))
                try simp only [Act.put, List.setIfInBounds_toArray, List.set_cons_zero, List.set_cons_succ]
                refine wpAnyH_take (i := 10) (oi := _) (v := ?v10) rfl (by kernel_rfl) (by kernel_rfl) (by kernel_rfl) (fun _ _ _ h => h) (Or.inl ⟨by rfl, ?hy10⟩) (by assumption) ?rest10
                case hy10 => (intro W hSw; (try dsimp only at hSw); first | (go_simp; done) | (go_simp; with_reducible rfl))
                try simp only [Act.put, List.setIfInBounds_toArray, List.set_cons_zero, List.set_cons_succ]
                refine wpAnyH_ready (rs := [9, 11]) (by kernel_rfl) (by simp) ?_
                refine AllReadyH.cons rfl (fun K hK => ?_) (AllReadyH.cons rfl (fun K hK => ?_) AllReadyH.nil)
                · go_simp
                  refine hK.out _ _ ?_ (fun hHeld => ?_)
                  · exact kp _ _ GA.out
                  clear hK K
                  obtain ⟨xl, xh⟩ := hHeld
                  have hHeld : (fun W : World => W.cell? ⟨b7, 0, none⟩ = some (.int .i64 x) ∧ W.cell? ⟨b8, 0, none⟩ = some (.int .i64 y)) _ := ⟨xl, xh⟩
                  try simp only [Act.put, List.setIfInBounds_toArray, List.set_cons_zero, List.set_cons_succ]
                  refine wpAnyH_ready (rs := [11]) (by kernel_rfl) (by simp) ?_
                  refine AllReadyH.cons rfl (fun K hK => ?_) AllReadyH.nil
                  go_simp
                  go_at_call 37
                  refine (l01Next_any 2 GA.out.dr (by omega)).mono ?_
                  rintro e vA ⟨u, rfl, hu, hdA, hcA⟩
                  obtain ⟨u0, u1⟩ := hu.lt (by omega)
                  obtain ⟨v, hv⟩ := hr_lit e1 e2 hcA (by show ¬ w6.heap.size = S; omega) u0 u1
                  have hv : vA.cell? ⟨w6.heap.size, u.toNat, none⟩ = some (.int .i64 v) := hv
                  have GB := Lib.hid (GA.out.next HBB.out hdA hcA)
                  clear hu hdA hcA GA G0
                  obtain ⟨p9, f9⟩ := own_int (e := 2) GB.out.own Hx9.out
                  go_wp2_with fail
                  refine hK.out _ _ ?_ (fun hHeld => ?_)
                  · exact kp _ _ GB.out
                  clear hK K
                  obtain ⟨xl, xh⟩ := hHeld
                  have hHeld : (fun W : World => W.cell? ⟨b7, 0, none⟩ = some (.int .i64 x) ∧ W.cell? ⟨b8, 0, none⟩ = some (.int .i64 y)) _ := ⟨xl, xh⟩
                  try simp only [Act.put, List.setIfInBounds_toArray, List.set_cons_zero, List.set_cons_succ]
                  refine wpAnyH_take (i := 12) (oi := _) (v := ?v51) rfl (by kernel_rfl) (by kernel_rfl) (by kernel_rfl) (fun _ _ _ h => h) (Or.inl ⟨by rfl, ?hy51⟩) (by assumption) ?rest51
                  case hy51 => (intro W hSw; (try dsimp only at hSw); first | (go_simp; done) | (go_simp; with_reducible rfl))
                  try simp only [Act.put, List.setIfInBounds_toArray, List.set_cons_zero, List.set_cons_succ]
                  refine wpAnyH_ready (rs := [13]) (by kernel_rfl) (by simp) ?_
                  refine AllReadyH.cons rfl (fun K hK => ?_) AllReadyH.nil
                  go_simp
                  refine hK.out _ _ ?_ (fun hHeld => ?_)
                  · exact kp _ _ GB.out
                  clear hK K
                  obtain ⟨xl, xh⟩ := hHeld
                  have hHeld : (fun W : World => W.cell? ⟨b7, 0, none⟩ = some (.int .i64 x) ∧ W.cell? ⟨b8, 0, none⟩ = some (.int .i64 y)) _ := ⟨xl, xh⟩
                  try simp only [Act.put, List.setIfInBounds_toArray, List.set_cons_zero, List.set_cons_succ]
                  refine wpAnyH_take (i := 14) (oi := _) (v := ?v56) rfl (by kernel_rfl) (by kernel_rfl) (by kernel_rfl) (fun _ _ _ h => h) (Or.inl ⟨by rfl, ?hy56⟩) (by assumption) ?rest56
                  case hy56 => (intro W hSw; (try dsimp only at hSw); first | (go_simp; done) | (go_simp; with_reducible rfl))
                  try simp only [Act.put, List.setIfInBounds_toArray, List.set_cons_zero, List.set_cons_succ]
                  have FP := Lib.hid (GB.out.put (k := 0) HBB.out v)
                  refine wpAnyH_ready (rs := [15]) (by kernel_rfl) (by simp) ?_
                  refine AllReadyH.cons rfl (fun K hK => ?_) AllReadyH.nil
                  go_simp
                  refine hK.out _ _ ?_ (fun hHeld => ?_)
                  · exact kp _ _ FP.out
                  clear hK K
                  obtain ⟨xl, xh⟩ := hHeld
                  have hHeld : (fun W : World => W.cell? ⟨b7, 0, none⟩ = some (.int .i64 x) ∧ W.cell? ⟨b8, 0, none⟩ = some (.int .i64 y)) _ := ⟨xl, xh⟩
                  try simp only [Act.put, List.setIfInBounds_toArray, List.set_cons_zero, List.set_cons_succ]
                  refine wpAnyH_done (by kernel_rfl) ?_ _
                  refine NoPanic.normal ?_
                  clear kp hHeld xl xh hv p9 f9
                  go_wp2_with fail
                  go_meet
                  case rel => exact ⟨_, _, _, z7, z8, z9.set 0 v, _, _, _, z10, rfl, rfl, HFin.of4 FP.out.rot4.rot4 (by omega) (by omega) (by omega) (by omega)⟩
                · go_simp
                  go_at_call 37
                  refine (l01Next_any 2 G0.out.dr (by omega)).mono ?_
                  rintro e vA ⟨u, rfl, hu, hdA, hcA⟩
                  obtain ⟨u0, u1⟩ := hu.lt (by omega)
                  have GB0 := Lib.hid (G0.out.next HBB.out hdA hcA)
                  have GB := Lib.hid (GB0.out.gr ((Gr.refl vA).alloc (.cells #[.int .i64 e1, .int .i64 e2] 2)))
                  obtain ⟨v, hv⟩ := hr_lit (w := vA) (W := vA.alloc (.cells #[.int .i64 e1, .int .i64 e2] 2)) (P := fun _ => False) e1 e2 (Chg.refl _ _) (fun h => h) u0 u1
                  clear hu hdA hcA GA G0
                  obtain ⟨p9, f9⟩ := own_int (e := 2) GB.out.own Hx9.out
                  go_wp2_with fail
                  refine hK.out _ _ ?_ (fun hHeld => ?_)
                  · exact kp _ _ GB0.out
                  clear hK K
                  obtain ⟨xl, xh⟩ := hHeld
                  have hHeld : (fun W : World => W.cell? ⟨b7, 0, none⟩ = some (.int .i64 x) ∧ W.cell? ⟨b8, 0, none⟩ = some (.int .i64 y)) _ := ⟨xl, xh⟩
                  try simp only [Act.put, List.setIfInBounds_toArray, List.set_cons_zero, List.set_cons_succ]
                  refine wpAnyH_ready (rs := [9]) (by kernel_rfl) (by simp) ?_
                  refine AllReadyH.cons rfl (fun K hK => ?_) AllReadyH.nil
                  go_simp
                  refine hK.out _ _ ?_ (fun hHeld => ?_)
                  · exact kp _ _ GB.out
                  clear hK K
                  obtain ⟨xl, xh⟩ := hHeld
                  have hHeld : (fun W : World => W.cell? ⟨b7, 0, none⟩ = some (.int .i64 x) ∧ W.cell? ⟨b8, 0, none⟩ = some (.int .i64 y)) _ := ⟨xl, xh⟩
                  try simp only [Act.put, List.setIfInBounds_toArray, List.set_cons_zero, List.set_cons_succ]
                  refine wpAnyH_take (i := 12) (oi := _) (v := ?v71) rfl (by kernel_rfl) (by kernel_rfl) (by kernel_rfl) (fun _ _ _ h => h) (Or.inl ⟨by rfl, ?hy71⟩) (by assumption) ?rest71
                  case hy71 => (intro W hSw; (try dsimp only at hSw); first | (go_simp; done) | (go_simp; with_reducible rfl))
                  try simp only [Act.put, List.setIfInBounds_toArray, List.set_cons_zero, List.set_cons_succ]
                  refine wpAnyH_ready (rs := [13]) (by kernel_rfl) (by simp) ?_
                  refine AllReadyH.cons rfl (fun K hK => ?_) AllReadyH.nil
                  go_simp
                  refine hK.out _ _ ?_ (fun hHeld => ?_)
                  · exact kp _ _ GB.out
                  clear hK K
                  obtain ⟨xl, xh⟩ := hHeld
                  have hHeld : (fun W : World => W.cell? ⟨b7, 0, none⟩ = some (.int .i64 x) ∧ W.cell? ⟨b8, 0, none⟩ = some (.int .i64 y)) _ := ⟨xl, xh⟩
                  try simp only [Act.put, List.setIfInBounds_toArray, List.set_cons_zero, List.set_cons_succ]
                  refine wpAnyH_take (i := 14) (oi := _) (v := ?v76) rfl (by kernel_rfl) (by kernel_rfl) (by kernel_rfl) (fun _ _ _ h => h) (Or.inl ⟨by rfl, ?hy76⟩) (by assumption) ?rest76
                  case hy76 => (intro W hSw; (try dsimp only at hSw); first | (go_simp; done) | (go_simp; with_reducible rfl))
                  try simp only [Act.put, List.setIfInBounds_toArray, List.set_cons_zero, List.set_cons_succ]
                  have FP := Lib.hid (GB.out.put (k := 0) HBB.out v)
                  refine wpAnyH_ready (rs := [15]) (by kernel_rfl) (by simp) ?_
                  refine AllReadyH.cons rfl (fun K hK => ?_) AllReadyH.nil
                  go_simp
                  refine hK.out _ _ ?_ (fun hHeld => ?_)
                  · exact kp _ _ FP.out
                  clear hK K
                  obtain ⟨xl, xh⟩ := hHeld
                  have hHeld : (fun W : World => W.cell? ⟨b7, 0, none⟩ = some (.int .i64 x) ∧ W.cell? ⟨b8, 0, none⟩ = some (.int .i64 y)) _ := ⟨xl, xh⟩
                  try simp only [Act.put, List.setIfInBounds_toArray, List.set_cons_zero, List.set_cons_succ]
                  refine wpAnyH_done (by kernel_rfl) ?_ _
                  refine NoPanic.normal ?_
                  clear kp hHeld xl xh hv p9 f9
                  go_wp2_with fail
                  go_meet
                  case rel => exact ⟨_, _, _, z7, z8, z9.set 0 v, _, _, _, z10, rfl, rfl, HFin.of4 FP.out.rot4.rot4 (by omega) (by omega) (by omega) (by omega)⟩
              by_cases h1 : t = 1
              · subst h1
                clear h0
                obtain ⟨b8, y8, e8, hb8, hx8⟩ := HN6.out.form (A := A8) (u := n1) (c := c8) (zs := z8) (by simp) (k := 0) hn0
                subst e8
                have hs6 : S < w6.heap.size := by have := rb_lt HN6.out.hM; omega
                have t2 : (0 : Int) < (n1 : Int) := by omega
                have GA := Lib.hid (HN6.out.rot4.gr ((Gr.refl w6).alloc (.cells #[.int .i64 1000000000, .int .i64 1000000001] 2)))
                have Hx8 := Lib.hid hx8
                clear HN6 hx8
                go_wp2_with fail
                refine (l01Next_any 2 GA.out.dr (by omega)).mono ?_
                rintro e vA ⟨u, rfl, hu, hdA, hcA⟩
                obtain ⟨u0, u1⟩ := hu.lt (by omega)
                obtain ⟨v, hv⟩ := hr_lit 1000000000 1000000001 hcA (by omega) u0 u1
                have GB := Lib.hid (GA.out.next HBB.out hdA hcA)
                obtain ⟨p8, f8⟩ := own_int (e := 2) GB.out.own Hx8.out
                have FP := Lib.hid (GB.out.put (k := 0) HBB.out v)
                clear hu hdA hcA GA GB
                go_wp2_with fail
                go_meet
                case rel => exact ⟨_, _, _, z7, z8.set 0 v, z9, _, _, _, z10, rfl, rfl, HFin.of4 FP.out.rot4.rot4.rot4 (by omega) (by omega) (by omega) (by omega)⟩
              by_cases h2 : t = 2
              · subst h2
                clear h0 h1
                have O2 := Lib.hid HN6.out.rot4.rot4.rot4.own
                have G2 := Lib.hid (HN6.out.rot4.rot4.rot4.gr ((Gr.refl w6).alloc (.cells #[.int .i64 0] 2)))
                have hs6 := rb_lt HN6.out.hM
                clear HN6
                go_wp2_with (at_builtin; (refine wpList_append_own_at _ rfl _ _ _ rfl (M + 1) 2 i0 _ 1 8 Try.underlying28 hi0 hz0 hz1 hz2 rfl (by omega) _ n1 _ rfl (O2.out.alloc _) ⟨w6.heap.size, 0, none⟩ 1 1 [.int .i64 0] rfl rfl (World.news_of_block (cs := #[.int .i64 0]) (t := 2) (fr := (0, 0)) (heap_alloc_new w6 _)) (by simp [Value.oneCell']) (by unfold maxLen; omega) (by omega) (by simp; omega) ?_; intro v' w8 hown8 hg8 _ hat8))
                obtain ⟨B10, d10, rfl⟩ := own_shape hown8
                have H8 := Lib.hid (G2.out.add HBB.out hown8 hg8 hat8).rot4
                clear hown8 hg8 hat8 O2 G2 hs6
                go_wp2_with fail
                go_meet
                case rel => exact ⟨_, _, _, z7, z8, z9, _, _, _, z10 ++ [0], rfl, rfl, HFin.of4 H8.out (by omega) (by omega) (by omega) (by omega)⟩
              by_cases h3 : t = 3
              · subst h3
                clear h0 h1 h2
                obtain ⟨n', hn'⟩ : ∃ n', n1 = n' + 1 := ⟨n1 - 1, by omega⟩
                obtain ⟨b7, y7, e7, hb7, hx7⟩ := HN6.out.form (A := A7) (u := n1) (c := c7) (zs := z7) (by simp) (k := 0) hn0
                subst e7
                have hcap := (own_cap HN6.out.own).1
                have F6 := Lib.hid (HFin.of4 HN6.out (by omega) (by omega) (by omega) (by omega))
                have hs6 := rb_lt HN6.out.hM
                subst hn'
                clear HN6 hx7
                by_cases hc1 : c7 = 1
                · subst hc1
                  obtain rfl : n' = 0 := by omega
                  have L6 := Lib.hid (F6.out.lo.tail (by dsimp only; omega) 0 (by dsimp only; omega))
                  clear hcap
                  go_wp2_with fail
                  go_meet
                  case rel => exact ⟨_, _, _, _, _, _, _, _, _, _, rfl, rfl, F6.out.st, L6.out, F6.out.hi, F6.out.nw, F6.out.sup⟩
                · have Hc1 := Lib.hid hc1
                  have L6 := Lib.hid (F6.out.lo.tail (by dsimp only; omega) 1 (fun _ => rfl))
                  clear hc1
                  go_wp2_with fail
                  go_meet
                  case rel => exact ⟨_, _, _, _, _, _, _, _, _, _, rfl, rfl, F6.out.st, L6.out, F6.out.hi, F6.out.nw, F6.out.sup⟩
              have tt0 : (t == 0) = false := by simp [h0]
              have tt1 : (t == 1) = false := by simp [h1]
              have tt2 : (t == 2) = false := by simp [h2]
              have tt3 : (t == 3) = false := by simp [h3]
              clear h0 h1 h2 h3
              go_wp2_with fail
              go_meet
              case rel => exact ⟨_, _, _, z7, z8, z9, _, _, _, z10, rfl, rfl, HFin.of4 HN6.out (by omega) (by omega) (by omega) (by omega)⟩
            · have tn : decide ((0 : Int) < (n1 : Int)) = false := by simp; omega
              go_wp2_with fail
              go_meet
              case rel => exact ⟨_, _, _, z7, z8, z9, _, _, _, z10, rfl, rfl, HFin.of4 HNp.out (by omega) (by omega) (by omega) (by omega)⟩
          obtain ⟨A7', m7, c7', z7', z8', z9', A10', m10, c10', z10', rfl, rfl, hF⟩ := hcut
          rename World => wz
          have HF := Lib.hid (hF.next HBB.out (hF.st.dr.grow (Gr.refl wz).drew) ((Gr.refl wz).drew.chg _))
          have q0 := (HF.out.st).m0
          have q1 := (HF.out.st).m1
          have hSM : S ≠ M := by omega
          have hsz := rb_lt hF.st.hM
          clear hF HNp
          go_upto_region 26 with fail
          go_region_held3 (fun W => W.cell? ⟨M, 0, none⟩ = some (.slice A1 n1 c1) ∧ W.cell? ⟨M, 1, none⟩ = some (.slice A2 n2 c2))
            (first | with_reducible exact ⟨q0, q1⟩ | with_reducible exact ⟨r0, r1⟩ | with_reducible exact kq2 _ _ | with_reducible exact kq5 _ _ _ _ _ | with_reducible exact kq7 _ _ _ _ _ _ _)
            (first | (go_at_call 38; with_reducible refine (l05DrawFlows_any HF.out.st.dr (by omega)).mono ?_; rintro e W9 ⟨A5, m5, c5, fl, rfl, hm5, ho5, hd9, hc9⟩; have HG := Lib.hid (HF.out.next HBB.out hd9 hc9); have HO := Lib.hid ho5; have r0 := HG.out.st.m0; have r1 := HG.out.st.m1; have kc : ∀ (W : World), Chg (fun j => j = R ∨ j = R + 1 ∨ j = R + 1 + 1) W9 W → (W.cell? ⟨M, 0, none⟩ = some (.slice A1 n1 c1) ∧ W.cell? ⟨M, 1, none⟩ = some (.slice A2 n2 c2)) := (fun W hc => ⟨chg_cell' hc r0 (by simp only; omega), chg_cell' hc r1 (by simp only; omega)⟩); have y0 : ∀ (W : World) (j : Nat) (v : Value), Chg (fun j => j = R ∨ j = R + 1 ∨ j = R + 1 + 1) W (W.setCell ⟨R, j, none⟩ v) := (fun W j v => chg_set W _ v (.inl rfl)); have y1 : ∀ (W : World) (j : Nat) (v : Value), Chg (fun j => j = R ∨ j = R + 1 ∨ j = R + 1 + 1) W (W.setCell ⟨R + 1, j, none⟩ v) := (fun W j v => chg_set W _ v (.inr (.inl rfl))); have y2 : ∀ (W : World) (j : Nat) (v : Value), Chg (fun j => j = R ∨ j = R + 1 ∨ j = R + 1 + 1) W (W.setCell ⟨R + 1 + 1, j, none⟩ v) := (fun W j v => chg_set W _ v (.inr (.inr rfl))); have kq2 : ∀ v0 v1 : Value, (((W9.setCell ⟨R, 0, none⟩ v0).setCell ⟨R, 1, none⟩ v1).cell? ⟨M, 0, none⟩ = some (.slice A1 n1 c1) ∧ ((W9.setCell ⟨R, 0, none⟩ v0).setCell ⟨R, 1, none⟩ v1).cell? ⟨M, 1, none⟩ = some (.slice A2 n2 c2)) := (fun v0 v1 => kc _ ((y0 _ _ _).trans (y0 _ _ _))); have kq5 : ∀ v0 v1 v2 v3 v4 : Value, ((((((W9.setCell ⟨R, 0, none⟩ v0).setCell ⟨R, 1, none⟩ v1).setCell ⟨R + 1, 0, none⟩ v2).setCell ⟨R + 1, 1, none⟩ v3).setCell ⟨R + 1, 2, none⟩ v4).cell? ⟨M, 0, none⟩ = some (.slice A1 n1 c1) ∧ (((((W9.setCell ⟨R, 0, none⟩ v0).setCell ⟨R, 1, none⟩ v1).setCell ⟨R + 1, 0, none⟩ v2).setCell ⟨R + 1, 1, none⟩ v3).setCell ⟨R + 1, 2, none⟩ v4).cell? ⟨M, 1, none⟩ = some (.slice A2 n2 c2)) := (fun v0 v1 v2 v3 v4 => kc _ (((((y0 _ _ _).trans (y0 _ _ _)).trans (y1 _ _ _)).trans (y1 _ _ _)).trans (y1 _ _ _))); have kq7 : ∀ v0 v1 v2 v3 v4 v5 v6 : Value, ((((((((W9.setCell ⟨R, 0, none⟩ v0).setCell ⟨R, 1, none⟩ v1).setCell ⟨R + 1, 0, none⟩ v2).setCell ⟨R + 1, 1, none⟩ v3).setCell ⟨R + 1, 2, none⟩ v4).setCell ⟨R + 1 + 1, 0, none⟩ v5).setCell ⟨R + 1 + 1, 1, none⟩ v6).cell? ⟨M, 0, none⟩ = some (.slice A1 n1 c1) ∧ (((((((W9.setCell ⟨R, 0, none⟩ v0).setCell ⟨R, 1, none⟩ v1).setCell ⟨R + 1, 0, none⟩ v2).setCell ⟨R + 1, 1, none⟩ v3).setCell ⟨R + 1, 2, none⟩ v4).setCell ⟨R + 1 + 1, 0, none⟩ v5).setCell ⟨R + 1 + 1, 1, none⟩ v6).cell? ⟨M, 1, none⟩ = some (.slice A2 n2 c2)) := (fun v0 v1 v2 v3 v4 v5 v6 => kc _ (((((((y0 _ _ _).trans (y0 _ _ _)).trans (y1 _ _ _)).trans (y1 _ _ _)).trans (y1 _ _ _)).trans (y2 _ _ _)).trans (y2 _ _ _))); have a0 := rb_cell (j := 0) HG.out.st.z0 rfl; have a1 := rb_cell (j := 1) HG.out.st.z0 rfl; have b0 := rb_cell (j := 0) HG.out.st.z1 rfl; have b1 := rb_cell (j := 1) HG.out.st.z1 rfl; have b2 := rb_cell (j := 2) HG.out.st.z1 rfl; have d0 : W9.cell? ⟨R + 1 + 1, 0, none⟩ = some (.slice none 0 0) := rb_cell (j := 0) HG.out.st.z2 rfl; have d1 : W9.cell? ⟨R + 1 + 1, 1, none⟩ = some (.slice none 0 0) := rb_cell (j := 1) HG.out.st.z2 rfl; have fa0 := rb_frozen HG.out.st.z0 0; have fa1 := rb_frozen HG.out.st.z0 1; have fb0 := rb_frozen HG.out.st.z1 0; have fb1 := rb_frozen HG.out.st.z1 1; have fb2 := rb_frozen HG.out.st.z1 2; have fd0 : W9.frozen? ⟨R + 1 + 1, 0, none⟩ = false := rb_frozen HG.out.st.z2 0; have fd1 : W9.frozen? ⟨R + 1 + 1, 1, none⟩ = false := rb_frozen HG.out.st.z2 1; clear ho5 hd9 hc9 kc y0 y1 y2))
          clear kq2 kq5 kq7 a0 a1 b0 b1 b2 d0 d1 fa0 fa1 fb0 fb1 fb2 fd0 fd1 r0 r1 q0 q1
          have hbs : M ≤ wz.drew.heap.size := by show M ≤ wz.heap.size; omega
          obtain ⟨⟨u1, u2, u3⟩, ⟨q, k1⟩, k2, k3, k4, k5, k6, k7, k8⟩ := HG.out.fin HBB.out HO.out hbs (by omega) (W' := (((((((W9.setCell ⟨R, 0, none⟩ (.slice A1 n1 c1)).setCell ⟨R, 1, none⟩ (.slice A2 n2 c2)).setCell ⟨R + 1, 0, none⟩ (.slice A7' m7 c7')).setCell ⟨R + 1, 1, none⟩ (.slice A8 n1 c8)).setCell ⟨R + 1, 2, none⟩ (.slice A9 n1 c9)).setCell ⟨R + 1 + 1, 0, none⟩ (.slice A5 m5 c5)).setCell ⟨R + 1 + 1, 1, none⟩ (.slice A10' m10 c10'))) rfl
          have U1 := Lib.hid u1
          have U2 := Lib.hid u2
          have U3 := Lib.hid u3
          have K1 := Lib.hid k1
          have K2 := Lib.hid k2
          have K3 := Lib.hid k3
          have K4 := Lib.hid k4
          have K5 := Lib.hid k5
          have K6 := Lib.hid k6
          have K7 := Lib.hid k7
          have K8 := Lib.hid k8
          clear u1 u2 u3 k1 k2 k3 k4 k5 k6 k7 k8
          go_wp2_with fail
          (try simp only [Exit.inBlock, Exit.then])
          refine bodyPost_ret (results_cell3 Try.results16 _ _ R (R + 1) (R + 2) 27 30 32 #[.slice A1 n1 c1, .slice A2 n2 c2] #[.slice A7' m7 c7', .slice A8 n1 c8, .slice A9 n1 c9] #[.slice A5 m5 c5, .slice A10' m10 c10'] (0, 0) (0, 0) (0, 0) _ _ _ ?_ ?_ ?_ U1.out U2.out U3.out Try.underlying27 rfl (by kernel_rfl) Try.underlying30 rfl (by kernel_rfl) Try.underlying32 rfl (by kernel_rfl)) ?_ ?_
          · rfl
          · rfl
          · rfl
          · rfl
          exact ⟨A1, n1, c1, A2, n2, c2, q, ⟨A7', m7, c7', z7'⟩, ⟨A8, n1, c8, z8'⟩, ⟨A9, n1, c9, z9'⟩, ⟨A5, m5, c5, fl⟩, ⟨A10', m10, c10', z10'⟩, rfl, K1.out, K2.out, K3.out, K4.out, K5.out, K6.out, K7.out, K8.out⟩
set_option maxHeartbeats 6400000 in
set_option maxRecDepth 100000 in
theorem DrawStepHour_any {A : Option Addr} {m c : Nat} (bs : List UInt8) (w : World) (hC : SlAt w 1 A m c (byts bs)) :
    Calls Try.prog 5 #[.slice A m c] w fun e w' => ∃ A1 n1 c1 A2 n2 c2 q, ∃ lo hi nw fl sup : IRow, e = .returned (.tuple #[.agg #[.slice A1 n1 c1, .slice A2 n2 c2], .agg #[.slice lo.A lo.u lo.c, .slice hi.A hi.u hi.c, .slice nw.A nw.u nw.c], .agg #[.slice fl.A fl.u fl.c, .slice sup.A sup.u sup.c]]) ∧ NetAt w' A1 n1 c1 A2 n2 c2 q ∧ SlAt w' 1 lo.A lo.u lo.c (ints lo.zs) ∧ SlAt w' 1 hi.A hi.u hi.c (ints hi.zs) ∧ SlAt w' 1 nw.A nw.u nw.c (ints nw.zs) ∧ SlAt w' 1 fl.A fl.u fl.c (ints fl.zs) ∧ SlAt w' 1 sup.A sup.u sup.c (ints sup.zs) ∧ Gr w w' := by
  have HC := Lib.hid hC
  clear hC
  go_enter Try.func5, Try.ntmps5
  go_upto_region 1 with fail
  obtain ⟨z0, z1, z2, hs1, hg1⟩ := three_new w (.cells #[.slice none 0 0, .slice none 0 0] 27) (.cells #[.slice none 0 0, .slice none 0 0, .slice none 0 0] 30) (.cells #[.slice none 0 0, .slice none 0 0] 32)
  generalize hw1 : World.alloc (World.alloc (World.alloc w _) _) _ = w1
  rw [hw1] at z0 z1 z2 hs1 hg1
  obtain ⟨R, hRe⟩ : ∃ R, R = w.heap.size := ⟨_, rfl⟩
  rw [← hRe] at z0 z1 z2 ⊢
  have hRw : w.heap.size ≤ R := by omega
  have Z0 := Lib.hid z0
  have Z1 := Lib.hid z1
  have Z2 := Lib.hid z2
  have Hre := Lib.hid hRe
  clear hw1 hRe z0 z1 z2 hs1
  go_wp2_with fail
  refine (l01From_any bs _ (HC.out.gr hg1)).mono ?_
  rintro e w2 ⟨S, rfl, hS, hd2⟩
  have h12 := hd2.gr
  have HD2 := Lib.hid hd2
  clear hd2
  go_wp2_with fail
  refine (l19Draw_any HD2.out).mono ?_
  rintro e W9 ⟨A1, n1, c1, A2, n2, c2, q, lo, hi, nw, fl, sup, rfl, k1, k2, k3, k4, k5, k6, hd3, _⟩
  have g13 := hd3.gr
  have e0 := (g13.below.block _ (rb_lt Z0.out)).trans Z0.out
  have e1 := (g13.below.block _ (rb_lt Z1.out)).trans Z1.out
  have e2 : W9.heap[R + 1 + 1]? = _ := (g13.below.block _ (rb_lt Z2.out)).trans Z2.out
  have a0 := rb_cell (j := 0) e0 rfl
  have a1 := rb_cell (j := 1) e0 rfl
  have b0 := rb_cell (j := 0) e1 rfl
  have b1 := rb_cell (j := 1) e1 rfl
  have b2 := rb_cell (j := 2) e1 rfl
  have d0 := rb_cell (j := 0) e2 rfl
  have d1 := rb_cell (j := 1) e2 rfl
  have fa0 := rb_frozen e0 0
  have fa1 := rb_frozen e0 1
  have fb0 := rb_frozen e1 0
  have fb1 := rb_frozen e1 1
  have fb2 := rb_frozen e1 2
  have fd0 := rb_frozen e2 0
  have fd1 := rb_frozen e2 1
  obtain ⟨⟨u1, u2, u3⟩, p1, p2, p3, p4, p5, p6, p7⟩ := hour_end hg1 hRw Z0.out Z1.out Z2.out h12 hd3 k1 k2 k3 k4 k5 k6 (W' := (((((((W9.setCell ⟨R, 0, none⟩ (.slice A1 n1 c1)).setCell ⟨R, 1, none⟩ (.slice A2 n2 c2)).setCell ⟨R + 1, 0, none⟩ (.slice lo.A lo.u lo.c)).setCell ⟨R + 1, 1, none⟩ (.slice hi.A hi.u hi.c)).setCell ⟨R + 1, 2, none⟩ (.slice nw.A nw.u nw.c)).setCell ⟨R + 1 + 1, 0, none⟩ (.slice fl.A fl.u fl.c)).setCell ⟨R + 1 + 1, 1, none⟩ (.slice sup.A sup.u sup.c))) rfl
  have U1 := Lib.hid u1
  have U2 := Lib.hid u2
  have U3 := Lib.hid u3
  have P1 := Lib.hid p1
  have P2 := Lib.hid p2
  have P3 := Lib.hid p3
  have P4 := Lib.hid p4
  have P5 := Lib.hid p5
  have P6 := Lib.hid p6
  have P7 := Lib.hid p7
  clear u1 u2 u3 p1 p2 p3 p4 p5 p6 p7 k1 k2 k3 k4 k5 k6 hd3 g13 e0 e1 e2 h12 hg1 HD2
  go_wp2_with fail
  (try simp only [Exit.inBlock, Exit.then])
  refine bodyPost_ret (results_cell3 Try.results5 _ _ R (R + 1) (R + 2) 27 30 32 #[.slice A1 n1 c1, .slice A2 n2 c2] #[.slice lo.A lo.u lo.c, .slice hi.A hi.u hi.c, .slice nw.A nw.u nw.c] #[.slice fl.A fl.u fl.c, .slice sup.A sup.u sup.c] (0, 0) (0, 0) (0, 0) _ _ _ ?_ ?_ ?_ U1.out U2.out U3.out Try.underlying27 rfl (by kernel_rfl) Try.underlying30 rfl (by kernel_rfl) Try.underlying32 rfl (by kernel_rfl)) ?_ ?_
  · rfl
  · rfl
  · rfl
  · rfl
  exact ⟨A1, n1, c1, A2, n2, c2, q, lo, hi, nw, fl, sup, rfl, P1.out, P2.out, P3.out, P4.out, P5.out, P6.out, P7.out⟩
end Go.Proofs.Ytbbecboihmmllaa
