import Derived.Test.YthhmhigddmimjaaGreatDrawA
import Derived.Deep.RegionWith
import Derived.Deep.Cut
import Derived.Deep.CutRange
/-
  Draws: networks, valid or not.
-/
set_option linter.unusedSimpArgs false
set_option linter.unusedVariables false
namespace Go.Proofs.YthhmhigddmimjaaGreat
open Go.ChangeShapes Go.WideShapes Go.ChangeAt Go.RowKit

theorem own_type_blk' {w : World} {base g s n c : Nat} {e e' : TypeId} {xs : List Value} {cs : Array Value} (h : w.ownsRow base e s (.slice (some ⟨g, 0, none⟩) n c) n xs) (h' : w.heap[g]? = some (.cells cs e' (0, 0))) (hne : e ≠ e') : False := by
  rcases h.2 with ⟨hv, _⟩ | ⟨k, cap, cur, hv, _, hk, _⟩
  · cases hv
  · injection hv with h1
    injection h1 with h1
    injection h1 with h1
    subst h1
    rw [hk] at h'
    injection h' with h'
    injection h' with _ h2
    exact hne h2
theorem own_types' {w : World} {base g s s' n c n' c' : Nat} {e e' : TypeId} {xs ys : List Value} (h : w.ownsRow base e s (.slice (some ⟨g, 0, none⟩) n c) n xs) (h' : w.ownsRow base e' s' (.slice (some ⟨g, 0, none⟩) n' c') n' ys) (hne : e ≠ e') : False := by
  rcases h'.2 with ⟨hv, _⟩ | ⟨k, cap, cur, hv, _, hk, _⟩
  · cases hv
  · injection hv with h1
    injection h1 with h1
    injection h1 with h1
    subst h1
    exact own_type_blk' h hk hne
/-- A network stands at M, its rows are the call's own; the result's block at R is still empty. -/
def EndAt (w0 w wx : World) (S R M : Nat) : Prop := ∃ A1 n1 c1 A2 n2 c2, ∃ n : GNet, wx.heap[M]? = some (.cells #[.slice A1 n1 c1, .slice A2 n2 c2] 32 (0, 0)) ∧ OwnNet wx (R + 1) A1 n1 c1 A2 n2 c2 n ∧ (n1 ≤ 7 ∧ n2 ≤ 12) ∧ Drw w0 wx S ∧ Chg (fun j => j = S) w wx ∧ wx.heap[R]? = some (.cells #[.slice none 0 0, .slice none 0 0] 32 (0, 0))
theorem own_blk_at {w : World} {base b s n c : Nat} {A : Option Addr} {e : TypeId} {xs : List Value} (h : w.ownsRow base e s (.slice A n c) n xs) (hb : (Value.slice A n c).ownBlock = some b) : A = some ⟨b, 0, none⟩ := by
  rcases h.2 with ⟨hv, _⟩ | ⟨k, cap, cur, hv, _⟩
  · rw [hv] at hb; cases hb
  · rw [hv] at hb
    injection hv with h1
    have e1 : k = b := Option.some.inj hb
    rw [h1, e1]
end Go.Proofs.YthhmhigddmimjaaGreat
/-
  Draws: a network and a chord.
-/
set_option linter.unusedSimpArgs false
set_option linter.unusedVariables false
namespace Go.Proofs.YthhmhigddmimjaaGreat
open Go.ChangeShapes Go.WideShapes Go.ChangeAt Go.RowKit

theorem results_row_tmp {P : Program} {fn : Func} {p u : Tmp} {ty : TypeId} (h : fn.results = #[.cell p ty, .tmp u]) (tmps : Array Value) (w : World) (g : Nat) (t : TypeId) (cs : Array Value) (fr : Nat × Nat) (d : TypeDesc)
    (hp : tmps.getD p undef = .pointer (some ⟨g, 0, none⟩)) (hg : w.heap[g]? = some (.cells cs t fr))
    (hu : P.underlying ty = some d) (hd : (match d with | .struct _ | .array _ _ => true | _ => false) = true) (hi : (P.info? ty).map (·.size) = some cs.size) :
    (results fn tmps).run P w = .ok (.tuple #[.agg cs, tmps.getD u undef]) w := by
  have hp' : tmps[p]?.getD undef = .pointer (some ⟨g, 0, none⟩) := by simpa using hp
  simp [results, h, hp', asAddr, run_loadVar_row w g t ty cs fr d hg hu hd hi]
theorem results_row_tmp2 {P : Program} {fn : Func} {p u v : Tmp} {ty : TypeId} (h : fn.results = #[.cell p ty, .tmp u, .tmp v]) (tmps : Array Value) (w : World) (g : Nat) (t : TypeId) (cs : Array Value) (fr : Nat × Nat) (d : TypeDesc)
    (hp : tmps.getD p undef = .pointer (some ⟨g, 0, none⟩)) (hg : w.heap[g]? = some (.cells cs t fr))
    (hu : P.underlying ty = some d) (hd : (match d with | .struct _ | .array _ _ => true | _ => false) = true) (hi : (P.info? ty).map (·.size) = some cs.size) :
    (results fn tmps).run P w = .ok (.tuple #[.agg cs, tmps.getD u undef, tmps.getD v undef]) w := by
  have hp' : tmps[p]?.getD undef = .pointer (some ⟨g, 0, none⟩) := by simpa using hp
  simp [results, h, hp', asAddr, run_loadVar_row w g t ty cs fr d hg hu hd hi]
theorem Upto.below {n x : Int} (h : Upto n x) (hn : 0 < n) : 0 ≤ x ∧ x < n := by
  refine ⟨h.1, ?_⟩
  rcases Int.lt_or_le 1 n with h1 | h1
  · exact h.2.1 h1
  · have := h.2.2 h1; omega
theorem EndAt.gr {w0 w wx wy : World} {S R M : Nat} (h : EndAt w0 w wx S R M) (hg : Gr wx wy) : EndAt w0 w wy S R M := by
  obtain ⟨A1, n1, c1, A2, n2, c2, n, hM, hO, hb, hD, hC, hR⟩ := h
  exact ⟨A1, n1, c1, A2, n2, c2, n, (hg.below.block M (rb_lt hM)).trans hM, hO.gr hg, hb, hD.grow hg, hC.trans (hg.chg _), (hg.below.block R (rb_lt hR)).trans hR⟩
end Go.Proofs.YthhmhigddmimjaaGreat
