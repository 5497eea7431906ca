/-
  Plain laws of allocation: what orders get has their sign; readings that fit leave no deviation. No program here.
-/
import Derived.Test.YtejfpajbkgfiaaaAllocA
import Derived.Test.YtejfpajbkgfiaaaReadFors
namespace Go.Proofs.Ytejfpajbkgfiaaa

theorem alTo_past {os : List GOrd} {rs : List GRd} {k : Nat} (h : rs[k]? = none) : alTo os rs (k + 1) = alTo os rs k := by
  have hl : rs.length ≤ k := List.getElem?_eq_none_iff.1 h
  rw [alTo, alTo, List.take_of_length_le (by omega), List.take_of_length_le hl]
theorem alTo_start (os : List GOrd) (rs : List GRd) (i : Nat) : (alTo os rs 0).getD i 0 = 0 := by
  show (List.replicate os.length (0 : Int)).getD i 0 = 0
  rw [List.getD_eq_getElem?_getD, List.getElem?_replicate]; split <;> rfl
/-- What an order gets has its sign. -/
theorem al_sign {nn nn' : Int} {os : List GOrd} {rs : List GRd} (h : ordsOk nn os = true) (hr : rdsOk nn' rs = true) {i : Nat} {x : GOrd} (hx : os[i]? = some x) (k : Nat) : 0 ≤ (alTo os rs k).getD i 0 * x.amount := by
  induction k with
  | zero => rw [alTo_start]; simp
  | succ k ih =>
    cases hy : rs[k]? with
    | none => rw [alTo_past hy]; exact ih
    | some y =>
      rw [alTo_step hy, alStep]
      split
      · exact ih
      · rename_i h0
        have hw := wAt_bnd h y
        have hS := sum_pos_of (fun z hz => (hw z hz).1) h0
        have hb := shares_bnd (rd_abs hr hy) hw hS (by rw [wAt_len]; exact (ordsOk_all h).1) i
        rw [addS_getD _ (by rw [shares_len h h0, alTo_len h]), Int.add_mul]
        have h2 : 0 ≤ sgn y.amount * (shares (sgn y.amount * y.amount) (wAt os y)).getD i 0 * x.amount := by
          by_cases hp : 0 < (wAt os y).getD i 0
          · rw [wAt_get hx] at hp
            have h3 := (wt_pos hp).2
            rw [Int.mul_comm (sgn y.amount), Int.mul_assoc]
            exact Int.mul_nonneg hb.1 (Int.le_of_lt h3)
          · have h3 := (shares_cmp (t := sgn y.amount * y.amount) (fun z hz => (hw z hz).1) hS).2.2 i (by rw [wAt_len]; exact (List.getElem?_eq_some_iff.1 hx).1) (by omega)
            rw [h3]; simp
        omega
theorem rd_parts {n : GNet} {os : List GOrd} {l : List GRd} (h : rdCode n os l = 0) : ordsOk n.nodes.length os = true ∧ rdsOk n.nodes.length l = true := ⟨(ordCode_zero (rdCode_zero h).1).2, (rdCode_zero h).2⟩
/-- The law on deviations, for one order. -/
theorem dev_law {n : GNet} {os : List GOrd} {l : List GRd} (h : rdCode n os l = 0) {i : Nat} {x : GOrd} (hx : os[i]? = some x) :
    (alRes n os l).getD i 0 = (dvRes n os l).getD i 0 + x.amount ∧ 0 ≤ (alRes n os l).getD i 0 * x.amount ∧ (-48000000000 ≤ (alRes n os l).getD i 0 ∧ (alRes n os l).getD i 0 ≤ 48000000000) ∧ (-30000 ≤ x.amount ∧ x.amount ≤ 30000) := by
  obtain ⟨h1, h2⟩ := rd_parts h
  have hi := (List.getElem?_eq_some_iff.1 hx).1
  have e : (dvRes n os l).getD i 0 = (al os l).getD i 0 - x.amount := by
    rw [dvRes, if_pos h, List.getD_eq_getElem?_getD, List.getElem?_map, List.getElem?_range hi]
    exact dvAt_of hx
  rw [e, alRes, if_pos h]
  exact ⟨by omega, al_sign h1 h2 hx _, al_bnd h1 h2 i, (ordOk_all ((ordsOk_all h1).2 i x hx)).2.2.1⟩
theorem dev_len {n : GNet} {os : List GOrd} {l : List GRd} (h : rdCode n os l = 0) : (alRes n os l).length = os.length ∧ (dvRes n os l).length = os.length := by
  rw [alRes, if_pos h, dvRes, if_pos h]
  exact ⟨al_len (rd_parts h).1 l, by simp⟩
theorem shares_exact {ws : List Int} (hS : 0 < ws.sum) : shares ws.sum ws = ws := by
  have h1 : shOut ws.sum ws.sum ws = ws := by
    rw [shOut]
    have e : ws.map (fun w => ws.sum * w / ws.sum) = ws.map id := List.map_congr_left fun w _ => Int.mul_ediv_cancel_left w (by omega)
    rw [e, List.map_id]
  rw [shares, shLeft, h1]
  simp [shIter]
/-- What a reading gives to an order. -/
def giv (x : GOrd) (y : GRd) : Int := sgn y.amount * wt y.node (sgn y.amount) x
theorem al_giv {os : List GOrd} {i : Nat} {x : GOrd} (hx : os[i]? = some x) (rs : List GRd) (h : ∀ y ∈ rs, 0 < (wAt os y).sum ∧ sgn y.amount * y.amount = (wAt os y).sum) (acc : List Int) (ha : acc.length = os.length) :
    (rs.foldl (alStep os) acc).getD i 0 = acc.getD i 0 + (rs.map (giv x)).sum := by
  induction rs generalizing acc with
  | nil => simp
  | cons y rs ih =>
    obtain ⟨h1, h2⟩ := h y (List.mem_cons_self ..)
    have hs : alStep os acc y = addS acc (wAt os y) (sgn y.amount) := by rw [alStep, if_neg (by omega), h2, shares_exact h1]
    rw [List.foldl_cons, hs, ih (fun z hz => h z (List.mem_cons_of_mem _ hz)) _ (by rw [addS_len (by rw [wAt_len, ha]), ha]), addS_getD _ (by rw [wAt_len, ha]), wAt_get hx, List.map_cons, List.sum_cons]
    show _ = acc.getD i 0 + (sgn y.amount * wt y.node (sgn y.amount) x + _)
    omega
theorem sgn_mul {s a : Int} (hs : s = 1 ∨ s = -1) (ha : 0 < a) : sgn (s * a) = s ∧ s * a ≠ 0 ∧ sgn (s * a) * (s * a) = a := by
  unfold sgn
  rcases hs with rfl | rfl
  · rw [if_neg (by omega)]; exact ⟨rfl, by omega, by omega⟩
  · rw [if_pos (by omega)]; exact ⟨rfl, by omega, by omega⟩
theorem ws_ge {nn : Int} {os : List GOrd} (h : ordsOk nn os = true) {x : GOrd} (hx : x ∈ os) (k : Int) {s : Int} (hs : s = 1 ∨ s = -1) : wt k s x ≤ ws os k s := by
  have hb := wts_bnd h (node := k) hs
  rw [ws]
  have hm : wt k s x ∈ wts os k s := List.mem_map.2 ⟨x, hx, rfl⟩
  generalize wts os k s = l at hb hm
  induction l with
  | nil => cases hm
  | cons z l ih =>
    rw [List.sum_cons]
    have h0 : 0 ≤ l.sum := sum_nonneg fun y hy => (hb y (List.mem_cons_of_mem _ hy)).1
    rcases List.mem_cons.1 hm with e | e
    · omega
    · have := ih (fun y hy => hb y (List.mem_cons_of_mem _ hy)) e
      have := (hb z (List.mem_cons_self ..)).1
      omega
theorem sj (j : Nat) (hj : j < 2) : (1 - 2 * (j : Int) = 1 ∨ 1 - 2 * (j : Int) = -1) := (sgn_j hj).1
/-- What one part of the readings is. -/
theorem prt_mem {os : List GOrd} {k j : Nat} {y : GRd} (hj : j < 2) (h : y ∈ prt os k j) : y.node = (k : Int) ∧ sgn y.amount = 1 - 2 * (j : Int) ∧ y.amount ≠ 0 ∧ sgn y.amount * y.amount = ws os k (1 - 2 * (j : Int)) ∧ 0 < ws os k (1 - 2 * (j : Int)) := by
  rw [prt] at h
  split at h
  · rename_i h0
    have e := List.mem_singleton.1 h
    subst e
    obtain ⟨a, b, c⟩ := sgn_mul (sj j hj) h0
    exact ⟨rfl, a, b, c, h0⟩
  · cases h
theorem prts_two (os : List GOrd) (k : Nat) : prts os k 2 = prt os k 0 ++ prt os k 1 := by simp [prts, List.range_succ]
theorem rfAll_mem {os : List GOrd} {N : Nat} {y : GRd} (h : y ∈ rfAll os N) : ∃ k, k < N ∧ ∃ j, j < 2 ∧ y ∈ prt os k j := by
  rw [rfAll, List.mem_flatMap] at h
  obtain ⟨k, hk, hy⟩ := h
  rw [prts_two, List.mem_append] at hy
  refine ⟨k, List.mem_range.1 hk, ?_⟩
  rcases hy with hy | hy
  · exact ⟨0, by omega, hy⟩
  · exact ⟨1, by omega, hy⟩
theorem giv_prt {nn : Int} {os : List GOrd} (h : ordsOk nn os = true) {x : GOrd} (hx : x ∈ os) (k j : Nat) (hj : j < 2) : ((prt os k j).map (giv x)).sum = (1 - 2 * (j : Int)) * wt k (1 - 2 * (j : Int)) x := by
  have hge := ws_ge h hx k (sj j hj)
  have h0 := (wt_bnd (node := (k : Int)) ((ordsOk_all h).2 _ x (List.mem_iff_getElem?.1 hx).choose_spec) (sj j hj)).1
  rw [prt]
  split
  · rename_i hp
    obtain ⟨a, _, _⟩ := sgn_mul (sj j hj) hp
    simp only [List.map_cons, List.map_nil, List.sum_cons, List.sum_nil, giv, a]
    omega
  · have e : wt k (1 - 2 * (j : Int)) x = 0 := by omega
    rw [e]; simp
theorem giv_all {nn : Int} {os : List GOrd} (h : ordsOk nn os = true) {x : GOrd} (hx : x ∈ os) (N : Nat) : ((rfAll os N).map (giv x)).sum = if 0 ≤ x.node ∧ x.node < (N : Int) then x.amount else 0 := by
  induction N with
  | zero => rw [if_neg (by omega)]; rfl
  | succ N ih =>
    rw [rfAll_step, List.map_append, List.sum_append, ih, prts_two, List.map_append, List.sum_append, giv_prt h hx N 0 (by omega), giv_prt h hx N 1 (by omega)]
    unfold wt
    by_cases e : x.node = (N : Int)
    · rw [if_pos e, if_pos e, if_neg (by omega), if_pos (by omega)]
      omega
    · rw [if_neg e, if_neg e]
      by_cases e2 : 0 ≤ x.node ∧ x.node < (N : Int)
      · rw [if_pos e2, if_pos (by omega)]; omega
      · rw [if_neg e2, if_neg (by omega)]; omega
theorem rf_wsum {os : List GOrd} {N : Nat} {y : GRd} (h : y ∈ rfAll os N) : 0 < (wAt os y).sum ∧ sgn y.amount * y.amount = (wAt os y).sum := by
  obtain ⟨k, _, j, hj, hy⟩ := rfAll_mem h
  obtain ⟨a, b, _, d, e⟩ := prt_mem hj hy
  have : (wAt os y).sum = ws os k (1 - 2 * (j : Int)) := by rw [wAt, a, b]; rfl
  rw [this]
  exact ⟨e, d⟩
theorem prt_clash {os : List GOrd} {k k' j j' : Nat} (hj : j < 2) (hj' : j' < 2) (hne : k ≠ k' ∨ j ≠ j') {y z : GRd} (hy : y ∈ prt os k j) (hz : z ∈ prt os k' j') : rdClash z y = false := by
  obtain ⟨a, b, c, _, _⟩ := prt_mem hj hy
  obtain ⟨a', b', c', _, _⟩ := prt_mem hj' hz
  rw [rdClash, a, a']
  by_cases e : k = k'
  · have ej : j ≠ j' := by rcases hne with h | h <;> omega
    have hs : sgn y.amount ≠ sgn z.amount := by rw [b, b']; omega
    have : (decide (0 < y.amount) == decide (0 < z.amount)) = false := by
      unfold sgn at hs
      by_cases h1 : y.amount < 0 <;> by_cases h2 : z.amount < 0
      · rw [if_pos h1, if_pos h2] at hs; exact absurd rfl hs
      · have e1 : decide (0 < y.amount) = false := by simp; omega
        have e2 : decide (0 < z.amount) = true := by simp; omega
        rw [e1, e2]; rfl
      · have e1 : decide (0 < y.amount) = true := by simp; omega
        have e2 : decide (0 < z.amount) = false := by simp; omega
        rw [e1, e2]; rfl
      · rw [if_neg h1, if_neg h2] at hs; exact absurd rfl hs
    rw [this, Bool.and_false]
  · have : ((k : Int) == (k' : Int)) = false := by simp; omega
    rw [this, Bool.false_and]
theorem prt_pw (os : List GOrd) (k j : Nat) : (prt os k j).Pairwise fun y z => rdClash z y = false := by
  unfold prt; split <;> simp
theorem rfAll_pw (os : List GOrd) (N : Nat) : (rfAll os N).Pairwise fun y z => rdClash z y = false := by
  induction N with
  | zero => exact List.Pairwise.nil
  | succ N ih =>
    rw [rfAll_step, prts_two]
    refine List.pairwise_append.2 ⟨ih, List.pairwise_append.2 ⟨prt_pw os N 0, prt_pw os N 1, fun y hy z hz => prt_clash (by omega) (by omega) (Or.inr (by omega)) hy hz⟩, fun y hy z hz => ?_⟩
    obtain ⟨k, hk, j, hj, hy⟩ := rfAll_mem hy
    rcases List.mem_append.1 hz with hz | hz
    · exact prt_clash hj (by omega) (Or.inl (by omega)) hy hz
    · exact prt_clash hj (by omega) (Or.inl (by omega)) hy hz
theorem rfCode_zero {n : GNet} {os : List GOrd} (h : rfCode n os = 0) : ordCode n os = 0 ∧ ∀ k, k < n.nodes.length → rfBad os k = false := by
  by_cases e : ordCode n os = 0
  · rw [rfCode, if_pos e] at h
    refine ⟨e, fun k hk => ?_⟩
    cases hb : rfBad os k with
    | false => rfl
    | true =>
      have : (List.range n.nodes.length).any (rfBad os) = true := List.any_eq_true.2 ⟨k, List.mem_range.2 hk, hb⟩
      rw [if_pos this] at h; cases h
  · rw [rfCode, if_neg e] at h; exact absurd h e
/-- The readings that fit are readings of the network. -/
theorem rf_ok {n : GNet} {os : List GOrd} (h : rfCode n os = 0) : rdCode n os (rfRes n os) = 0 ∧ rdCode n [] (rfRes n os) = 0 := by
  obtain ⟨h1, h2⟩ := rfCode_zero h
  have hn := (ordCode_zero h1).1
  have hok := (ordCode_zero h1).2
  have h24 := (netOk_all hn).1.2.1
  have hr : rdsOk n.nodes.length (rfRes n os) = true := by
    rw [rfRes, if_pos h]
    refine rdsOk_good (by have := rfAll_len os n.nodes.length; omega) fun m hm y hy => ?_
    obtain ⟨k, hk, j, hj, hp⟩ := rfAll_mem (List.mem_of_getElem? hy)
    obtain ⟨a, b, c, d, e⟩ := prt_mem hj hp
    have hb := h2 k hk
    rw [rfBad, Bool.or_eq_false_iff] at hb
    have hle : ws os k (1 - 2 * (j : Int)) ≤ 30000 := by
      have h3 := of_decide_eq_false hb.1
      have h4 := of_decide_eq_false hb.2
      have : j = 0 ∨ j = 1 := by omega
      rcases this with rfl | rfl
      · have e1 : (1 - 2 * ((0 : Nat) : Int)) = 1 := rfl
        rw [e1]; omega
      · have e1 : (1 - 2 * ((1 : Nat) : Int)) = -1 := rfl
        rw [e1]; omega
    have hamt : -30000 ≤ y.amount ∧ y.amount ≤ 30000 := by
      rw [← d] at hle
      rcases sgn_cases y.amount with e1 | e1
      · rw [e1] at hle d; omega
      · rw [e1] at hle d; omega
    have hno : ((rfAll os n.nodes.length).take m).any (rdClash y) = false := by
      rw [List.any_eq_false]
      intro z hz
      obtain ⟨i, hi⟩ := List.mem_iff_getElem?.1 hz
      have hil := (List.getElem?_eq_some_iff.1 hi).1
      simp only [List.length_take] at hil
      rw [List.getElem?_take, if_pos (by omega)] at hi
      have h5 := List.pairwise_iff_getElem.1 (rfAll_pw os n.nodes.length) i m (by omega) hm (by omega)
      rw [(List.getElem?_eq_some_iff.1 hi).2, (List.getElem?_eq_some_iff.1 hy).2] at h5
      simp [h5]
    rw [rdAt, hno, rdOk, Bool.and_eq_true, Bool.and_eq_true, Bool.and_eq_true, inB_iff, inB_iff]
    refine ⟨⟨⟨by omega, hamt⟩, by simp [c]⟩, rfl⟩
  refine ⟨rdCode_ok h1 hr, rdCode_ok ?_ hr⟩
  rw [ordCode_nil, hn]; rfl
theorem unTo_none {os : List GOrd} {rs : List GRd} (h : ∀ y ∈ rs, 0 < (wAt os y).sum) (k : Nat) (hk : k ≤ rs.length) : unTo os rs k = [] := by
  induction k with
  | zero => rfl
  | succ k ih =>
    have hy : rs[k]? = some rs[k] := List.getElem?_eq_getElem (by omega)
    have := h _ (List.mem_of_getElem? hy)
    rw [unTo_miss hy (by omega), ih (by omega)]
/-- The law on readings that fit. -/
theorem fit_law {n : GNet} {os : List GOrd} (h : rfCode n os = 0) : (∀ z ∈ dvRes n os (rfRes n os), z = 0) ∧ unRes n os (rfRes n os) = [] := by
  obtain ⟨h1, _⟩ := rfCode_zero h
  have hok := (ordCode_zero h1).2
  have hc := (rf_ok h).1
  have he : rfRes n os = rfAll os n.nodes.length := by rw [rfRes, if_pos h]
  constructor
  · intro z hz
    rw [dvRes, if_pos hc, List.mem_map] at hz
    obtain ⟨i, hi, rfl⟩ := hz
    have hil := List.mem_range.1 hi
    have hx : os[i]? = some os[i] := List.getElem?_eq_getElem hil
    have hxo := ordOk_all ((ordsOk_all hok).2 i _ hx)
    rw [dvAt_of hx, al, alTo, List.take_length, he, al_giv hx _ (fun y hy => rf_wsum hy) _ (by simp), giv_all hok (List.mem_of_getElem? hx), if_pos (by omega)]
    have e0 : (List.replicate os.length (0 : Int)).getD i 0 = 0 := by
      rw [List.getD_eq_getElem?_getD, List.getElem?_replicate]; split <;> rfl
    omega
  · rw [unRes, if_pos hc, he]
    exact unTo_none (fun y hy => (rf_wsum hy).1) _ (Nat.le_refl _)
end Go.Proofs.Ytejfpajbkgfiaaa
