-- JOINED BY A PROGRAM OF THIS PLACE (wip/tools/pack.py) out of: TPathP TAwake PureTileAsks
import Derived.Test.YtopacnaiedlaaaaDoorK15
import Derived.Test.YtopacnaiedlaaaaDoorK20
import Derived.Test.YtopacnaiedlaaaaDoorK22
import Derived.Test.YtopacnaiedlaaaaDoorK23
import Derived.Test.YtopacnaiedlaaaaDoorK28
section
/-
  tile.PathNodes, tile.ProofNodes, and the document's, as plain lists of lists of pairs.
-/
namespace Go.Proofs.YtopacnaiedlaaaaDoor.F
open Go.RowKit Go.Proofs.YtopacnaiedlaaaaDoor Go.Proofs.YtopacnaiedlaaaaDoorW.PrintWords Go.Proofs.YtopacnaiedlaaaaDoorW.PrintLast Go.Proofs.YtopacnaiedlaaaaDoorW.PrintMore
set_option linter.unusedVariables false
set_option linter.unusedSimpArgs false
def C (lo hi : Nat) : List P2 := (covR (lo : Int) (hi : Int)).1
theorem C_len (lo hi : Nat) : (C lo hi).length ≤ 41 := by
  unfold C covR
  split
  · exact cov_len 41 _ _
  · exact Nat.zero_le _
def mm29 (L : List (List P2)) : List (List S29) := L.map m29
def mm59 (L : List (List P2)) : List (List S59) := L.map m59
theorem mm29_len (L : List (List P2)) : (mm29 L).length = L.length := List.length_map _
theorem mm59_len (L : List (List P2)) : (mm59 L).length = L.length := List.length_map _
theorem mm29_snoc (L : List (List P2)) (p : List P2) : mm29 L ++ [m29 p] = mm29 (L ++ [p]) := by simp [mm29]
theorem mm59_snoc (L : List (List P2)) (p : List P2) : mm59 L ++ [m59 p] = mm59 (L ++ [p]) := by simp [mm59]
theorem mm29_rev (L : List (List P2)) : (mm29 L).reverse = mm29 L.reverse := by simp [mm29]
def mid (lo hi : Nat) : Nat := lo + Hs.cut (hi - lo)
def pth : Nat → Nat → Nat → Nat → List (List P2)
  | 0, _, _, _ => []
  | e + 1, i, lo, hi => if hi - lo ≤ 1 then [] else if i < mid lo hi then pth e i lo (mid lo hi) ++ [C (mid lo hi) hi] else pth e i (mid lo hi) hi ++ [C lo (mid lo hi)]
def prf : Nat → Nat → Nat → Nat → Bool → List (List P2)
  | 0, m, lo, hi, own => if own = true then [] else [C lo hi]
  | e + 1, m, lo, hi, own => if m = hi then (if own = true then [] else [C lo hi]) else if m ≤ mid lo hi then prf e m lo (mid lo hi) own ++ [C (mid lo hi) hi] else prf e m (mid lo hi) hi false ++ [C lo (mid lo hi)]
def down : Nat → Nat → Nat → Nat → List (List P2) × Nat
  | 0, m, lo, hi => ([], lo)
  | e + 1, m, lo, hi => if m = hi then ([], lo) else if m ≤ mid lo hi then (C (mid lo hi) hi :: (down e m lo (mid lo hi)).1, (down e m lo (mid lo hi)).2) else (C lo (mid lo hi) :: (down e m (mid lo hi) hi).1, (down e m (mid lo hi) hi).2)
theorem pth_len : ∀ e i lo hi, (pth e i lo hi).length ≤ e
  | 0, _, _, _ => Nat.le_refl _
  | e + 1, i, lo, hi => by
    have h1 := pth_len e i lo (mid lo hi)
    have h2 := pth_len e i (mid lo hi) hi
    unfold pth
    split
    · exact Nat.zero_le _
    · split
      · rw [List.length_append, List.length_singleton]; omega
      · rw [List.length_append, List.length_singleton]; omega
theorem prf_len : ∀ e m lo hi own, (prf e m lo hi own).length ≤ e + 1
  | 0, _, _, _, own => by
    unfold prf
    split <;> simp
  | e + 1, m, lo, hi, own => by
    have h1 := prf_len e m lo (mid lo hi) own
    have h2 := prf_len e m (mid lo hi) hi false
    unfold prf
    split
    · split <;> simp
    · split
      · rw [List.length_append, List.length_singleton]; omega
      · rw [List.length_append, List.length_singleton]; omega
theorem down_len : ∀ e m lo hi, (down e m lo hi).1.length ≤ e
  | 0, _, _, _ => Nat.le_refl _
  | e + 1, m, lo, hi => by
    have h1 := down_len e m lo (mid lo hi)
    have h2 := down_len e m (mid lo hi) hi
    unfold down
    split
    · exact Nat.zero_le _
    · split
      · rw [List.length_cons]; omega
      · rw [List.length_cons]; omega
theorem mid_lt (lo hi : Nat) (h : 2 ≤ hi - lo) : lo < mid lo hi ∧ mid lo hi < hi := by
  have a := Hs.cut_pos (hi - lo)
  have b := Hs.cut_lt (hi - lo) h
  unfold mid
  omega
theorem mid_half (lo hi e : Nat) (h : 2 ≤ hi - lo) (he : hi - lo ≤ 2 ^ (e + 1)) : mid lo hi - lo ≤ 2 ^ e ∧ hi - mid lo hi ≤ 2 ^ e := by
  have := cut_half (hi - lo) e h he
  have b := Hs.cut_lt (hi - lo) h
  unfold mid
  omega
theorem down_ge : ∀ e m lo hi, lo < m → m ≤ hi → hi - lo ≤ 2 ^ e → lo ≤ (down e m lo hi).2
  | 0, m, lo, hi, _, _, _ => Nat.le_refl _
  | e + 1, m, lo, hi, h1, h2, h3 => by
    unfold down
    by_cases hm : m = hi
    · rw [if_pos hm]; exact Nat.le_refl _
    · have hl := mid_lt lo hi (by omega)
      have hh := mid_half lo hi e (by omega) h3
      rw [if_neg hm]
      by_cases hk : m ≤ mid lo hi
      · rw [if_pos hk]
        exact down_ge e m lo (mid lo hi) h1 hk hh.1
      · rw [if_neg hk]
        have := down_ge e m (mid lo hi) hi (by omega) h2 hh.2
        show lo ≤ (down e m (mid lo hi) hi).2
        omega
theorem prf_down : ∀ e m lo hi own, lo < m → m ≤ hi → hi - lo ≤ 2 ^ e → prf e m lo hi own = (if own = true ∧ (down e m lo hi).2 = lo then [] else [C (down e m lo hi).2 m]) ++ (down e m lo hi).1.reverse
  | 0, m, lo, hi, own, h1, h2, h3 => by
    obtain rfl : m = hi := by simp at h3; omega
    unfold prf down
    cases own <;> simp
  | e + 1, m, lo, hi, own, h1, h2, h3 => by
    unfold prf down
    by_cases hm : m = hi
    · rw [if_pos hm, if_pos hm]
      subst hm
      cases own <;> simp
    · have hl := mid_lt lo hi (by omega)
      have hh := mid_half lo hi e (by omega) h3
      rw [if_neg hm, if_neg hm]
      by_cases hk : m ≤ mid lo hi
      · rw [if_pos hk, if_pos hk, prf_down e m lo (mid lo hi) own h1 hk hh.1, List.reverse_cons, List.append_assoc]
      · rw [if_neg hk, if_neg hk, prf_down e m (mid lo hi) hi false (by omega) h2 hh.2, List.reverse_cons, List.append_assoc]
        have := down_ge e m (mid lo hi) hi (by omega) h2 hh.2
        rw [if_neg (by simp), if_neg (by rintro ⟨_, h⟩; omega)]
theorem cut_ev (lo hi : Nat) (h : 2 ≤ hi - lo) (hb : hi ≤ 1099511627776) : tile_cut.f (lo : Int) (hi : Int) = some ((mid lo hi : Nat) : Int) := by
  have hl := mid_lt lo hi h
  unfold tile_cut.f
  have hb40 : bitLen (hi - lo - 1) ≤ 40 := bitLen_le (by have : (2 : Nat) ^ 40 = 1099511627776 := rfl; omega)
  have hb1 := bitLen_pos (n := hi - lo - 1) (by omega)
  have hp := pow_le40 (bitLen (hi - lo - 1) - 1) (by omega)
  have hpp := Nat.two_pow_pos (bitLen (hi - lo - 1) - 1)
  have hw : IntKind.u64.wrap (wrap64 ((wrap64 ((hi : Int) - (lo : Int))) - 1)) = ((hi - lo - 1 : Nat) : Int) := by
    rw [wr64 ((hi : Int) - (lo : Int)) (by omega), wr64 (((hi : Int) - (lo : Int)) - 1) (by omega), wu64 _ (by omega)]
    omega
  have hw2 : wrap64 ((bitLen (hi - lo - 1) : Int) - 1) = ((bitLen (hi - lo - 1) - 1 : Nat) : Int) := by
    rw [wr64 _ (by omega)]
    omega
  rw [hw, len_some _ (by omega), Option.bind_some, hw2, if_pos (by omega), shl_one _ (by omega), wr64 _ (by omega)]
  rfl
theorem cover_C (lo hi : Nat) (h1 : lo ≤ 1099511627776) (h2 : hi ≤ 1099511627776) : Ev (fun k => tile_Cover.f k (lo : Int) (hi : Int)) (m29 (C lo hi), (covR (lo : Int) (hi : Int)).2) := cover_ev _ _ (by omega) (by omega)
/-! ### the program's -/
theorem splitP_from : ∀ (e i lo hi : Nat) (out : List (List P2)), lo ≤ i → i < hi → hi - lo ≤ 2 ^ e → hi ≤ 1099511627776 → out.length + e ≤ 100 →
    ∃ a b : Int, Ev (fun k => splitP.l0 k (i : Int) (lo : Int) (hi : Int) (mm29 out)) (mm29 (out ++ (pth e i lo hi).reverse), a, b)
  | e, i, lo, hi, out, h1, h2, h3, h4, h5 => by
    by_cases h0 : hi - lo ≤ 1
    · refine ⟨lo, hi, Ev.step (f := fun _ => some _) (fun k => ?_) (Ev.now _)⟩
      simp only [splitP.l0, onP.f]
      rw [wr64 _ (by omega), Option.bind_some, if_neg (by rw [decide_eq_true_eq]; omega)]
      cases e with
      | zero => simp [pth]
      | succ e => rw [pth, if_pos h0, List.reverse_nil, List.append_nil]
    · cases e with
      | zero => simp at h3; omega
      | succ e =>
        have hl := mid_lt lo hi (by omega)
        have hh := mid_half lo hi e (by omega) h3
        rw [pth, if_neg h0]
        by_cases hk : i < mid lo hi
        · obtain ⟨a, b, hr⟩ := splitP_from e i lo (mid lo hi) (out ++ [C (mid lo hi) hi]) h1 hk hh.1 (by omega) (by rw [List.length_append, List.length_singleton]; omega)
          rw [List.append_assoc, List.singleton_append] at hr
          rw [if_pos hk, List.reverse_append, List.reverse_singleton, List.singleton_append]
          refine ⟨a, b, Ev.step (f := fun k => (tile_Cover.f k ((mid lo hi : Nat) : Int) (hi : Int)).bind fun t => splitP.l0 k (i : Int) (lo : Int) ((mid lo hi : Nat) : Int) (mm29 out ++ [t.1])) (fun k => ?_) (Ev.bind (f := fun k t => splitP.l0 k (i : Int) (lo : Int) ((mid lo hi : Nat) : Int) (mm29 out ++ [t.1])) (cover_C (mid lo hi) hi (by omega) (by omega)) (Ev.congr (fun k => ?_) hr))⟩
          · simp only [splitP.l0, onP.f, leftP.f]
            rw [wr64 _ (by omega), Option.bind_some, if_pos (by rw [decide_eq_true_eq]; omega), cut_ev lo hi (by omega) h4, Option.bind_some, Option.bind_some, if_pos (by rw [decide_eq_true_eq]; omega)]
            congr 1
            funext t
            rw [mm29_len, if_pos (by omega)]
          · rw [mm29_snoc]
        · obtain ⟨a, b, hr⟩ := splitP_from e i (mid lo hi) hi (out ++ [C lo (mid lo hi)]) (by omega) h2 hh.2 (by omega) (by rw [List.length_append, List.length_singleton]; omega)
          rw [List.append_assoc, List.singleton_append] at hr
          rw [if_neg hk, List.reverse_append, List.reverse_singleton, List.singleton_append]
          refine ⟨a, b, Ev.step (f := fun k => (tile_Cover.f k (lo : Int) ((mid lo hi : Nat) : Int)).bind fun t => splitP.l0 k (i : Int) ((mid lo hi : Nat) : Int) (hi : Int) (mm29 out ++ [t.1])) (fun k => ?_) (Ev.bind (f := fun k t => splitP.l0 k (i : Int) ((mid lo hi : Nat) : Int) (hi : Int) (mm29 out ++ [t.1])) (cover_C lo (mid lo hi) (by omega) (by omega)) (Ev.congr (fun k => ?_) hr))⟩
          · simp only [splitP.l0, onP.f, leftP.f]
            rw [wr64 _ (by omega), Option.bind_some, if_pos (by rw [decide_eq_true_eq]; omega), cut_ev lo hi (by omega) h4, Option.bind_some, Option.bind_some, if_neg (by rw [decide_eq_true_eq]; omega)]
            congr 1
            funext t
            rw [mm29_len, if_pos (by omega)]
          · rw [mm29_snoc]
theorem splitQ_from : ∀ (e m lo hi : Nat) (out : List (List P2)), lo < m → m ≤ hi → hi - lo ≤ 2 ^ e → hi ≤ 1099511627776 → out.length + e ≤ 100 →
    Ev (fun k => splitQ.l0 k (m : Int) (lo : Int) (hi : Int) (mm29 out)) (mm29 (out ++ (down e m lo hi).1), ((down e m lo hi).2 : Int), (m : Int))
  | e, m, lo, hi, out, h1, h2, h3, h4, h5 => by
    by_cases h0 : m = hi
    · refine Ev.step (f := fun _ => some _) (fun k => ?_) (Ev.now _)
      simp only [splitQ.l0, onQ.f]
      rw [Option.bind_some, if_neg (by rw [decide_eq_true_eq]; omega)]
      cases e with
      | zero => simp [down, h0]
      | succ e => rw [down, if_pos h0, List.append_nil, h0]
    · cases e with
      | zero => simp at h3; omega
      | succ e =>
        have hl := mid_lt lo hi (by omega)
        have hh := mid_half lo hi e (by omega) h3
        rw [down, if_neg h0]
        by_cases hk : m ≤ mid lo hi
        · have hr := splitQ_from e m lo (mid lo hi) (out ++ [C (mid lo hi) hi]) h1 hk hh.1 (by omega) (by rw [List.length_append, List.length_singleton]; omega)
          rw [List.append_assoc, List.singleton_append] at hr
          rw [if_pos hk]
          refine Ev.step (f := fun k => (tile_Cover.f k ((mid lo hi : Nat) : Int) (hi : Int)).bind fun t => splitQ.l0 k (m : Int) (lo : Int) ((mid lo hi : Nat) : Int) (mm29 out ++ [t.1])) (fun k => ?_) (Ev.bind (f := fun k t => splitQ.l0 k (m : Int) (lo : Int) ((mid lo hi : Nat) : Int) (mm29 out ++ [t.1])) (cover_C (mid lo hi) hi (by omega) (by omega)) (Ev.congr (fun k => ?_) hr))
          · simp only [splitQ.l0, onQ.f, leftQ.f]
            rw [Option.bind_some, if_pos (by rw [decide_eq_true_eq]; omega), cut_ev lo hi (by omega) h4, Option.bind_some, Option.bind_some, if_pos (by rw [decide_eq_true_eq]; omega)]
            congr 1
            funext t
            rw [mm29_len, if_pos (by omega)]
          · rw [mm29_snoc]
        · have hr := splitQ_from e m (mid lo hi) hi (out ++ [C lo (mid lo hi)]) (by omega) h2 hh.2 (by omega) (by rw [List.length_append, List.length_singleton]; omega)
          rw [List.append_assoc, List.singleton_append] at hr
          rw [if_neg hk]
          refine Ev.step (f := fun k => (tile_Cover.f k (lo : Int) ((mid lo hi : Nat) : Int)).bind fun t => splitQ.l0 k (m : Int) ((mid lo hi : Nat) : Int) (hi : Int) (mm29 out ++ [t.1])) (fun k => ?_) (Ev.bind (f := fun k t => splitQ.l0 k (m : Int) ((mid lo hi : Nat) : Int) (hi : Int) (mm29 out ++ [t.1])) (cover_C lo (mid lo hi) (by omega) (by omega)) (Ev.congr (fun k => ?_) hr))
          · simp only [splitQ.l0, onQ.f, leftQ.f]
            rw [Option.bind_some, if_pos (by rw [decide_eq_true_eq]; omega), cut_ev lo hi (by omega) h4, Option.bind_some, Option.bind_some, if_neg (by rw [decide_eq_true_eq]; omega)]
            congr 1
            funext t
            rw [mm29_len, if_pos (by omega)]
          · rw [mm29_snoc]
def pathN (i n : Int) : List (List P2) × Int := if 1 ≤ n ∧ n ≤ 1099511627776 ∧ 0 ≤ i ∧ i < n then (pth 40 i.toNat 0 n.toNat, 0) else ([], 8)
def proofN (m n : Int) : List (List P2) × Int := if 1 ≤ m ∧ m ≤ n ∧ n ≤ 1099511627776 then (prf 40 m.toNat 0 n.toNat true, 0) else ([], 8)
theorem pathNodes_ev (i n : Int) (h1 : -9223372036854775808 ≤ i ∧ i ≤ 9223372036854775807) (h2 : -9223372036854775808 ≤ n ∧ n ≤ 9223372036854775807) : Ev (fun k => tile_PathNodes.f k i n) (mm29 (pathN i n).1, (pathN i n).2) := by
  unfold pathN
  by_cases c : 1 ≤ n ∧ n ≤ 1099511627776 ∧ 0 ≤ i ∧ i < n
  · obtain ⟨a, rfl⟩ := Int.eq_ofNat_of_zero_le c.2.2.1
    obtain ⟨b, rfl⟩ := Int.eq_ofNat_of_zero_le (show 0 ≤ n by omega)
    rw [if_pos c, Int.toNat_natCast, Int.toNat_natCast]
    obtain ⟨x, y, hs⟩ := splitP_from 40 a 0 b [] (by omega) (by omega) (by have : (2 : Nat) ^ 40 = 1099511627776 := rfl; omega) (by omega) (by simp)
    rw [List.nil_append, ← mm29_rev] at hs
    have hs' : Ev (fun k => splitP.f k (b : Int) 0 (a : Int)) ((mm29 (pth 40 a 0 b)).reverse, x, y) := hs
    refine Ev.congr (f := fun k => (splitP.f k (b : Int) 0 (a : Int)).bind fun t => some (t.1.reverse, 0)) (fun k => ?_) (Ev.bind (f := fun _ t => some (t.1.reverse, 0)) hs' (Ev.congr (fun _ => ?_) (Ev.now _)))
    · unfold tile_PathNodes.f
      rw [if_neg (by omega), if_neg (by omega), if_neg (by omega), if_neg (by omega)]
    · rw [List.reverse_reverse]
  · rw [if_neg c]
    refine Ev.congr (fun k => ?_) (Ev.now _)
    unfold tile_PathNodes.f
    by_cases c1 : n < 1
    · rw [if_pos c1]; rfl
    · rw [if_neg c1]
      by_cases c2 : 1099511627776 < n
      · rw [if_pos c2]; rfl
      · rw [if_neg c2]
        by_cases c3 : i < 0
        · rw [if_pos c3]; rfl
        · rw [if_neg c3, if_pos (by omega)]; rfl
theorem proofNodes_ev (m n : Int) (h1 : -9223372036854775808 ≤ m ∧ m ≤ 9223372036854775807) (h2 : -9223372036854775808 ≤ n ∧ n ≤ 9223372036854775807) : Ev (fun k => tile_ProofNodes.f k m n) (mm29 (proofN m n).1, (proofN m n).2) := by
  unfold proofN
  by_cases c : 1 ≤ m ∧ m ≤ n ∧ n ≤ 1099511627776
  · obtain ⟨a, rfl⟩ := Int.eq_ofNat_of_zero_le (show 0 ≤ m by omega)
    obtain ⟨b, rfl⟩ := Int.eq_ofNat_of_zero_le (show 0 ≤ n by omega)
    rw [if_pos c, Int.toNat_natCast, Int.toNat_natCast]
    have h40 : b - 0 ≤ 2 ^ 40 := by have : (2 : Nat) ^ 40 = 1099511627776 := rfl; omega
    have hs := splitQ_from 40 a 0 b [] (by omega) (by omega) h40 (by omega) (by simp)
    rw [List.nil_append] at hs
    have hs' : Ev (fun k => splitQ.f k (b : Int) 0 (a : Int)) (mm29 (down 40 a 0 b).1, ((down 40 a 0 b).2 : Int), (a : Int)) := hs
    have hpd := prf_down 40 a 0 b true (by omega) (by omega) h40
    rw [hpd]
    have hdl := down_len 40 a 0 b
    obtain ⟨q, hq⟩ : ∃ q, q = (down 40 a 0 b).2 := ⟨_, rfl⟩
    have hql : q ≤ a := by
      have : ∀ e m lo hi, lo < m → m ≤ hi → hi - lo ≤ 2 ^ e → (down e m lo hi).2 < m := by
        intro e
        induction e with
        | zero => intro m lo hi h _ _; exact h
        | succ e ih =>
          intro m lo hi h1 h2 h3
          unfold down
          by_cases hm : m = hi
          · rw [if_pos hm]; exact h1
          · have hl := mid_lt lo hi (by omega)
            have hh := mid_half lo hi e (by omega) h3
            rw [if_neg hm]
            by_cases hk : m ≤ mid lo hi
            · rw [if_pos hk]; exact ih m lo (mid lo hi) h1 hk hh.1
            · rw [if_neg hk]; exact ih m (mid lo hi) hi (by omega) h2 hh.2
      rw [hq]
      have := this 40 a 0 b (by omega) (by omega) h40
      omega
    have hstep : ∀ k, tile_ProofNodes.f k (a : Int) (b : Int) = (splitQ.f k (b : Int) 0 (a : Int)).bind fun t => if 0 < t.2.1 then (tile_Cover.f k t.2.1 t.2.2).bind fun l => if 0 < t.1.length ∧ (t.1.length + 1) * 24 ≤ 140737488355328 then some (l.1 :: t.1.reverse, 0) else none else some (t.1.reverse, 0) := fun k => by
      unfold tile_ProofNodes.f
      rw [if_neg (by omega), if_neg (by omega), if_neg (by omega)]
    refine Ev.congr hstep (Ev.bind (f := fun k t => if 0 < t.2.1 then (tile_Cover.f k t.2.1 t.2.2).bind fun l => if 0 < t.1.length ∧ (t.1.length + 1) * 24 ≤ 140737488355328 then some (l.1 :: t.1.reverse, 0) else none else some (t.1.reverse, 0)) hs' ?_)
    rw [← hq]
    dsimp only
    by_cases h0 : q = 0
    · refine Ev.congr (fun k => ?_) (Ev.now _)
      rw [if_neg (by omega), if_pos ⟨rfl, h0⟩, List.nil_append, mm29_rev]
    · have hpos : 0 < (down 40 a 0 b).1.length := by
        rcases Nat.eq_zero_or_pos (down 40 a 0 b).1.length with hz | hz
        · exfalso
          apply h0
          rw [hq]
          by_cases hm : a = b
          · show (down (39 + 1) a 0 b).2 = 0
            rw [down, if_pos hm]
          · have hz' : (down (39 + 1) a 0 b).1.length = 0 := hz
            rw [down, if_neg hm] at hz'
            split at hz' <;> simp at hz'
        · exact hz
      refine Ev.congr (f := fun k => (tile_Cover.f k ((q : Nat) : Int) (a : Int)).bind fun l => some (l.1 :: (mm29 (down 40 a 0 b).1).reverse, 0)) (fun k => ?_) (Ev.bind (f := fun _ l => some (l.1 :: (mm29 (down 40 a 0 b).1).reverse, 0)) (cover_C q a (by omega) (by omega)) (Ev.congr (fun _ => ?_) (Ev.now _)))
      · rw [if_pos (by omega)]
        congr 1
        funext l
        exact if_pos ⟨by rw [mm29_len]; exact hpos, by rw [mm29_len]; omega⟩
      · rw [if_neg (fun h => h0 h.2), List.singleton_append, mm29_rev]
        rfl
  · rw [if_neg c]
    refine Ev.congr (fun k => ?_) (Ev.now _)
    unfold tile_ProofNodes.f
    by_cases c1 : m < 1
    · rw [if_pos c1]; rfl
    · rw [if_neg c1]
      by_cases c2 : n < m
      · rw [if_pos c2]; rfl
      · rw [if_neg c2, if_pos (by omega)]; rfl
/-! ### the document's -/
theorem rcut_mid (lo hi : Nat) (h : 2 ≤ hi - lo) (hb : hi ≤ 1099511627776) : Ev (fun k => sawyerref15_Cut.f k (wrap64 ((hi : Int) - (lo : Int)))) ((Hs.cut (hi - lo) : Nat) : Int) := by
  rw [show wrap64 ((hi : Int) - (lo : Int)) = ((hi - lo : Nat) : Int) by rw [wr64 _ (by omega)]; omega]
  exact rcut_some (hi - lo) h (by omega)
theorem sure_ev (lo hi : Nat) (h1 : lo ≤ 1099511627776) (h2 : hi ≤ 1099511627776) : Ev (fun k => sawyerref17_sure.f k (lo : Int) (hi : Int)) (m59 (C lo hi)) :=
  Ev.congr (f := fun k => (sawyerref17_Cover.f k (lo : Int) (hi : Int)).bind fun t => some t.1) (fun _ => rfl) (Ev.bind (f := fun _ t => some t.1) (rcover_ev (lo : Int) (hi : Int) (by omega) (by omega)) (Ev.now _))
theorem rpth_ev : ∀ (e i lo hi : Nat), lo ≤ i → i < hi → hi - lo ≤ 2 ^ e → hi ≤ 1099511627776 → e ≤ 60 → Ev (fun k => sawyerref17_path.f k (i : Int) (lo : Int) (hi : Int)) (mm59 (pth e i lo hi))
  | e, i, lo, hi, h1, h2, h3, h4, h5 => by
    by_cases h0 : hi - lo ≤ 1
    · refine Ev.step (f := fun _ => some _) (fun k => ?_) (Ev.now _)
      simp only [sawyerref17_path.f]
      rw [wr64 _ (by omega), if_pos (by omega)]
      cases e with
      | zero => rfl
      | succ e => rw [pth, if_pos h0]; rfl
    · cases e with
      | zero => simp at h3; omega
      | succ e =>
        have hl := mid_lt lo hi (by omega)
        have hh := mid_half lo hi e (by omega) h3
        have hmid : wrap64 ((lo : Int) + ((Hs.cut (hi - lo) : Nat) : Int)) = ((mid lo hi : Nat) : Int) := by
          unfold mid at hl ⊢
          rw [wr64 _ (by omega)]
          omega
        rw [pth, if_neg h0]
        have hne : ¬ wrap64 ((hi : Int) - (lo : Int)) = 1 := by rw [wr64 _ (by omega)]; omega
        refine Ev.step (g := fun k => sawyerref17_path.f k (i : Int) (lo : Int) (hi : Int)) (fun k => by simp only [sawyerref17_path.f]; rw [if_neg hne]) (Ev.bind (rcut_mid lo hi (by omega) h4) ?_)
        rw [hmid]
        by_cases hk : i < mid lo hi
        · have hr := rpth_ev e i lo (mid lo hi) h1 hk hh.1 (by omega) (by omega)
          have hsz := pth_len e i lo (mid lo hi)
          rw [if_pos hk]
          refine Ev.congr (fun k => if_pos (show (i : Int) < ((mid lo hi : Nat) : Int) by omega)) (Ev.bind hr (Ev.bind (sure_ev (mid lo hi) hi (by omega) (by omega)) (Ev.congr (fun _ => ?_) (Ev.now _))))
          rw [mm59_len, if_pos (by omega), mm59_snoc]
        · have hr := rpth_ev e i (mid lo hi) hi (by omega) h2 hh.2 (by omega) (by omega)
          have hsz := pth_len e i (mid lo hi) hi
          rw [if_neg hk]
          refine Ev.congr (fun k => if_neg (show ¬ (i : Int) < ((mid lo hi : Nat) : Int) by omega)) (Ev.bind hr (Ev.bind (sure_ev lo (mid lo hi) (by omega) (by omega)) (Ev.congr (fun _ => ?_) (Ev.now _))))
          rw [mm59_len, if_pos (by omega), mm59_snoc]
theorem rprf_ev : ∀ (e m lo hi : Nat) (own : Bool), lo < m → m ≤ hi → hi - lo ≤ 2 ^ e → hi ≤ 1099511627776 → e ≤ 60 → Ev (fun k => sawyerref17_proof.f k (m : Int) (lo : Int) (hi : Int) own) (mm59 (prf e m lo hi own))
  | e, m, lo, hi, own, h1, h2, h3, h4, h5 => by
    by_cases h0 : m = hi
    · have hp : prf e m lo hi own = if own = true then [] else [C lo hi] := by
        cases e with
        | zero => rfl
        | succ e => rw [prf, if_pos h0]
      rw [hp]
      cases own with
      | true =>
        refine Ev.step (f := fun _ => some _) (fun k => ?_) (Ev.now _)
        simp only [sawyerref17_proof.f]
        rw [if_pos (by omega)]
        rfl
      | false =>
        refine Ev.step (f := fun k => (sawyerref17_sure.f k (lo : Int) (hi : Int)).bind fun t => some [t]) (fun k => ?_) (Ev.bind (f := fun _ t => some [t]) (sure_ev lo hi (by omega) (by omega)) (Ev.now _))
        simp only [sawyerref17_proof.f]
        rw [if_pos (by omega)]
        rfl
    · cases e with
      | zero => simp at h3; omega
      | succ e =>
        have hl := mid_lt lo hi (by omega)
        have hh := mid_half lo hi e (by omega) h3
        have hmid : wrap64 ((lo : Int) + ((Hs.cut (hi - lo) : Nat) : Int)) = ((mid lo hi : Nat) : Int) := by
          unfold mid at hl ⊢
          rw [wr64 _ (by omega)]
          omega
        rw [prf, if_neg h0]
        refine Ev.step (g := fun k => sawyerref17_proof.f k (m : Int) (lo : Int) (hi : Int) own) (fun k => by simp only [sawyerref17_proof.f]; rw [if_neg (show ¬ (m : Int) = (hi : Int) by omega)]) (Ev.bind (rcut_mid lo hi (by omega) h4) ?_)
        rw [hmid]
        by_cases hk : m ≤ mid lo hi
        · have hr := rprf_ev e m lo (mid lo hi) own h1 hk hh.1 (by omega) (by omega)
          have hsz := prf_len e m lo (mid lo hi) own
          rw [if_pos hk]
          refine Ev.congr (fun k => if_pos (show (m : Int) ≤ ((mid lo hi : Nat) : Int) by omega)) (Ev.bind hr (Ev.bind (sure_ev (mid lo hi) hi (by omega) (by omega)) (Ev.congr (fun _ => ?_) (Ev.now _))))
          rw [mm59_len, if_pos (by omega), mm59_snoc]
        · have hr := rprf_ev e m (mid lo hi) hi false (by omega) h2 hh.2 (by omega) (by omega)
          have hsz := prf_len e m (mid lo hi) hi false
          rw [if_neg hk]
          refine Ev.congr (fun k => if_neg (show ¬ (m : Int) ≤ ((mid lo hi : Nat) : Int) by omega)) (Ev.bind hr (Ev.bind (sure_ev lo (mid lo hi) (by omega) (by omega)) (Ev.congr (fun _ => ?_) (Ev.now _))))
          rw [mm59_len, if_pos (by omega), mm59_snoc]
theorem rpathNodes_ev (i n : Int) : Ev (fun k => sawyerref17_PathNodes.f k i n) (mm59 (pathN i n).1, (pathN i n).2) := by
  unfold pathN
  by_cases c : 1 ≤ n ∧ n ≤ 1099511627776 ∧ 0 ≤ i ∧ i < n
  · obtain ⟨a, rfl⟩ := Int.eq_ofNat_of_zero_le c.2.2.1
    obtain ⟨b, rfl⟩ := Int.eq_ofNat_of_zero_le (show 0 ≤ n by omega)
    rw [if_pos c, Int.toNat_natCast, Int.toNat_natCast]
    have hs := rpth_ev 40 a 0 b (by omega) (by omega) (by have : (2 : Nat) ^ 40 = 1099511627776 := rfl; omega) (by omega) (by omega)
    refine Ev.congr (fun k => ?_) (Ev.bind (f := fun _ t => some (t, 0)) hs (Ev.now _))
    unfold sawyerref17_PathNodes.f
    rw [if_neg (by omega), if_neg (by omega), if_neg (by omega), if_neg (by omega)]
    rfl
  · rw [if_neg c]
    refine Ev.congr (fun k => ?_) (Ev.now _)
    unfold sawyerref17_PathNodes.f
    by_cases c1 : n < 1
    · rw [if_pos c1]; rfl
    · rw [if_neg c1]
      by_cases c2 : n > 1099511627776
      · rw [if_pos c2]; rfl
      · rw [if_neg c2]
        by_cases c3 : i < 0
        · rw [if_pos c3]; rfl
        · rw [if_neg c3, if_pos (by omega)]; rfl
theorem rproofNodes_ev (m n : Int) : Ev (fun k => sawyerref17_ProofNodes.f k m n) (mm59 (proofN m n).1, (proofN m n).2) := by
  unfold proofN
  by_cases c : 1 ≤ m ∧ m ≤ n ∧ n ≤ 1099511627776
  · obtain ⟨a, rfl⟩ := Int.eq_ofNat_of_zero_le (show 0 ≤ m by omega)
    obtain ⟨b, rfl⟩ := Int.eq_ofNat_of_zero_le (show 0 ≤ n by omega)
    rw [if_pos c, Int.toNat_natCast, Int.toNat_natCast]
    have hs := rprf_ev 40 a 0 b true (by omega) (by omega) (by have : (2 : Nat) ^ 40 = 1099511627776 := rfl; omega) (by omega) (by omega)
    refine Ev.congr (fun k => ?_) (Ev.bind (f := fun _ t => some (t, 0)) hs (Ev.now _))
    unfold sawyerref17_ProofNodes.f
    rw [if_neg (by omega), if_neg (by omega), if_neg (by omega)]
    rfl
  · rw [if_neg c]
    refine Ev.congr (fun k => ?_) (Ev.now _)
    unfold sawyerref17_ProofNodes.f
    by_cases c1 : m < 1
    · rw [if_pos c1]; rfl
    · rw [if_neg c1]
      by_cases c2 : m > n
      · rw [if_pos c2]; rfl
      · rw [if_neg c2, if_pos (by omega)]; rfl
/-! ### rows of rows turned and compared -/
theorem getL29 (L : List (List P2)) (i : Nat) (h : i < L.length) : rd_L2 (mm29 L) (i : Int) = m29 (L.getD i []) := by
  unfold rd_L2 mm29
  rw [Int.toNat_natCast, List.getD_eq_getElem?_getD, List.getElem?_map, List.getElem?_eq_getElem h, List.getD_eq_getElem?_getD, List.getElem?_eq_getElem h]
  rfl
theorem getL59 (L : List (List P2)) (i : Nat) (h : i < L.length) : rd_L4 (mm59 L) (i : Int) = m59 (L.getD i []) := by
  unfold rd_L4 mm59
  rw [Int.toNat_natCast, List.getD_eq_getElem?_getD, List.getElem?_map, List.getElem?_eq_getElem h, List.getD_eq_getElem?_getD, List.getElem?_eq_getElem h]
  rfl
theorem getD_small (L : List (List P2)) (hs : ∀ l ∈ L, l.length ≤ 1000000) (i : Nat) (h : i < L.length) : (L.getD i []).length ≤ 1000000 := by
  rw [List.getD_eq_getElem?_getD, List.getElem?_eq_getElem h]
  exact hs _ (List.getElem_mem h)
theorem rows_from (L : List (List P2)) (hl : L.length ≤ 1000000) (hs : ∀ l ∈ L, l.length ≤ 1000000) (d : Nat) : ∀ i, i + d = L.length → Ev (fun k => sawyerlaw17_rows.l0 k (mm29 L) (mm59 (L.take i)) (i : Int)) (mm59 L) := by
  induction d with
  | zero =>
    intro i hi
    refine Ev.step (f := fun _ => some _) (fun k => ?_) (Ev.now _)
    simp only [sawyerlaw17_rows.l0]
    rw [mm29_len, if_neg (by omega), List.take_of_length_le (by omega)]
  | succ d ih =>
    intro i hi
    have ht : L.take (i + 1) = L.take i ++ [L.getD i []] := by
      rw [List.take_succ_eq_append_getElem (by omega), List.getD_eq_getElem?_getD, List.getElem?_eq_getElem (by omega)]
      rfl
    have hr := ih (i + 1) (by omega)
    rw [ht, ← mm59_snoc] at hr
    refine Ev.step (f := fun k => (sawyerlaw17_row.f k (m29 (L.getD i []))).bind fun t => sawyerlaw17_rows.l0 k (mm29 L) (mm59 (L.take i) ++ [t]) ((i + 1 : Nat) : Int)) (fun k => ?_) (Ev.bind (f := fun k t => sawyerlaw17_rows.l0 k (mm29 L) (mm59 (L.take i) ++ [t]) ((i + 1 : Nat) : Int)) (row_ev _ (getD_small L hs i (by omega))) hr)
    simp only [sawyerlaw17_rows.l0]
    rw [mm29_len, if_pos (by omega), if_pos (by omega), getL29 L i (by omega)]
    congr 1
    funext t
    rw [mm59_len, List.length_take, if_pos (by omega), wr64 _ (by omega)]
    rfl
theorem rows_ev (L : List (List P2)) (hl : L.length ≤ 1000000) (hs : ∀ l ∈ L, l.length ≤ 1000000) : Ev (fun k => sawyerlaw17_rows.f k (mm29 L)) (mm59 L) := rows_from L hl hs L.length 0 (by omega)
theorem sameRows_from (L : List (List P2)) (hl : L.length ≤ 1000000) (hs : ∀ l ∈ L, l.length ≤ 1000000) (d : Nat) : ∀ i, i + d = L.length → Ev (fun k => sawyerref17_Same.l0 k (mm59 L) (mm59 L) (i : Int)) true := by
  induction d with
  | zero =>
    intro i hi
    refine Ev.step (f := fun _ => some _) (fun k => ?_) (Ev.now _)
    simp only [sawyerref17_Same.l0]
    rw [mm59_len, if_neg (by omega)]
  | succ d ih =>
    intro i hi
    refine Ev.step (f := fun k => (sawyerref17_SameRow.f k (m59 (L.getD i [])) (m59 (L.getD i []))).bind fun t => if t = true then sawyerref17_Same.l0 k (mm59 L) (mm59 L) ((i + 1 : Nat) : Int) else some false) (fun k => ?_) (Ev.bind (f := fun k t => if t = true then sawyerref17_Same.l0 k (mm59 L) (mm59 L) ((i + 1 : Nat) : Int) else some false) (sameRow_ev _ (getD_small L hs i (by omega))) (Ev.congr (fun k => if_pos rfl) (ih (i + 1) (by omega))))
    simp only [sawyerref17_Same.l0]
    rw [mm59_len, if_pos (by omega), if_pos (by omega), if_pos (by omega), getL59 L i (by omega), wr64 _ (by omega)]
    rfl
theorem sameRows_ev (L : List (List P2)) (hl : L.length ≤ 1000000) (hs : ∀ l ∈ L, l.length ≤ 1000000) : Ev (fun k => sawyerref17_Same.f k (mm59 L) (mm59 L)) true := by
  refine Ev.congr (fun k => ?_) (sameRows_from L hl hs L.length 0 (by omega))
  unfold sawyerref17_Same.f
  rw [if_pos rfl]
  rfl
end Go.Proofs.YtopacnaiedlaaaaDoor.F
end
section
/-
  The tile laws' awake: the document's example comes out.
-/
namespace Go.Proofs.YtopacnaiedlaaaaDoor.F
open Go.RowKit Go.Proofs.YtopacnaiedlaaaaDoor Go.Proofs.YtopacnaiedlaaaaDoorW.PrintWords Go.Proofs.YtopacnaiedlaaaaDoorW.PrintLast Go.Proofs.YtopacnaiedlaaaaDoorW.PrintMore
set_option linter.unusedVariables false
set_option linter.unusedSimpArgs false
theorem aw1 : newR 3 = ([(0, 3), (1, 1), (2, 0)], 0) := by decide +kernel
theorem aw2 : covR 0 5 = ([(2, 0), (0, 4)], 0) := by decide +kernel
theorem aw3 : pathN 2 3 = ([[(1, 0)]], 0) := by decide +kernel
theorem awake_ev : Ev (fun k => sawyerlaw17_awake.f k) true := by
  have h1 := new_ev 3 (by decide)
  have h2 := cover_ev 0 5 (by decide) (by decide)
  have h3 := pathNodes_ev 2 3 (by decide) (by decide)
  rw [aw1] at h1
  rw [aw2] at h2
  rw [aw3] at h3
  unfold sawyerlaw17_awake.f
  exact Ev.bind h1 (Ev.bind h2 (Ev.bind h3 (Ev.congr (fun _ => by decide +kernel) (Ev.now _))))
end Go.Proofs.YtopacnaiedlaaaaDoor.F
end
section
/-
  The plain statement of TileAsks: which nodes a leaf makes whole, which stand for leaves, of which paths and proofs are made, is what the document says.
-/
namespace Go.Proofs.YtopacnaiedlaaaaDoor.Pure
open Go.RowKit Go.Proofs.YtopacnaiedlaaaaDoor Go.Proofs.YtopacnaiedlaaaaDoor.F Go.Proofs.YtopacnaiedlaaaaDoorW.PrintWords Go.Proofs.YtopacnaiedlaaaaDoorW.PrintLast Go.Proofs.YtopacnaiedlaaaaDoorW.PrintMore
set_option linter.unusedVariables false
set_option linter.unusedSimpArgs false
theorem newR_len (s : Int) : (newR s).1.length ≤ 1000000 := by
  unfold newR
  split
  · unfold news
    have := ones_le 64 s.toNat
    simp
    omega
  · exact Nat.zero_le _
theorem covR_len (lo hi : Int) : (covR lo hi).1.length ≤ 1000000 := by
  unfold covR
  split
  · have := cov_len 41 lo.toNat (hi - lo).toNat
    show (cov 41 lo.toNat (hi - lo).toNat).length ≤ 1000000
    omega
  · exact Nat.zero_le _
theorem C_small (lo hi : Nat) : (C lo hi).length ≤ 1000000 := Nat.le_trans (C_len lo hi) (by decide)
theorem pth_small : ∀ e i lo hi, ∀ l ∈ pth e i lo hi, l.length ≤ 1000000
  | 0, _, _, _, l, h => by cases h
  | e + 1, i, lo, hi, l, h => by
    unfold pth at h
    split at h
    · cases h
    · split at h
      · rcases List.mem_append.1 h with h | h
        · exact pth_small e i lo _ l h
        · rw [List.mem_singleton.1 h]; exact C_small _ _
      · rcases List.mem_append.1 h with h | h
        · exact pth_small e i _ hi l h
        · rw [List.mem_singleton.1 h]; exact C_small _ _
theorem prf_small : ∀ e m lo hi own, ∀ l ∈ prf e m lo hi own, l.length ≤ 1000000
  | 0, _, lo, hi, own, l, h => by
    unfold prf at h
    split at h
    · cases h
    · rw [List.mem_singleton.1 h]; exact C_small _ _
  | e + 1, m, lo, hi, own, l, h => by
    unfold prf at h
    split at h
    · split at h
      · cases h
      · rw [List.mem_singleton.1 h]; exact C_small _ _
    · split at h
      · rcases List.mem_append.1 h with h | h
        · exact prf_small e m lo _ own l h
        · rw [List.mem_singleton.1 h]; exact C_small _ _
      · rcases List.mem_append.1 h with h | h
        · exact prf_small e m _ hi false l h
        · rw [List.mem_singleton.1 h]; exact C_small _ _
theorem pathN_len (i n : Int) : (pathN i n).1.length ≤ 1000000 ∧ ∀ l ∈ (pathN i n).1, l.length ≤ 1000000 := by
  unfold pathN
  split
  · exact ⟨Nat.le_trans (pth_len 40 i.toNat 0 n.toNat) (by decide), pth_small _ _ _ _⟩
  · exact ⟨Nat.zero_le _, fun l h => by cases h⟩
theorem proofN_len (m n : Int) : (proofN m n).1.length ≤ 1000000 ∧ ∀ l ∈ (proofN m n).1, l.length ≤ 1000000 := by
  unfold proofN
  split
  · exact ⟨Nat.le_trans (prf_len 40 m.toNat 0 n.toNat true) (by decide), prf_small _ _ _ _ _⟩
  · exact ⟨Nat.zero_le _, fun l h => by cases h⟩
theorem wfb {x : Int} (h : (Lit.int .i64 x).wf = true) : -9223372036854775808 ≤ x ∧ x ≤ 9223372036854775807 := by
  simp [Lit.wf, IntKind.min, IntKind.max, IntKind.bits, IntKind.signed] at h
  omega
theorem TileAsks (s : Int) (ws : (Lit.int .i64 s).wf = true) (lo : Int) (wl : (Lit.int .i64 lo).wf = true) (hi : Int) (wh : (Lit.int .i64 hi).wf = true) (i : Int) (wi : (Lit.int .i64 i).wf = true) (m : Int) (wm : (Lit.int .i64 m).wf = true) :
    ∃ k, sawyerlaw17_TileAsks.f k s lo hi i m = some true := by
  refine Ev.rounds ?_
  have bs := wfb ws
  have bl := wfb wl
  have bh := wfb wh
  have bi := wfb wi
  have bm := wfb wm
  have q1 := pathN_len i s
  have q2 := proofN_len m s
  have e3 : Ev (fun k => sawyerlaw17_TileAsks.j1 k s i m false) true := by
    refine Ev.step (fun k => by simp only [sawyerlaw17_TileAsks.j1]; rw [if_neg (by decide)]) (Ev.bind (pathNodes_ev i s bi bs) (Ev.bind (rpathNodes_ev i s) (Ev.bind (proofNodes_ev m s bm bs) (Ev.bind (rproofNodes_ev m s) ?_))))
    refine Ev.congr (fun k => if_pos rfl) (Ev.bind (rows_ev _ q1.1 q1.2) (Ev.bind (sameRows_ev _ q1.1 q1.2) ?_))
    exact Ev.congr (fun k => (if_pos rfl).trans (if_pos rfl)) (Ev.bind (rows_ev _ q2.1 q2.2) (Ev.bind (f := fun _ t => some t) (sameRows_ev _ q2.1 q2.2) (Ev.now _)))
  have e2 : Ev (fun k => sawyerlaw17_TileAsks.j0 k s lo hi i m false) true := by
    refine Ev.step (fun k => by simp only [sawyerlaw17_TileAsks.j0]; rw [if_neg (by decide)]) (Ev.bind (cover_ev lo hi bl bh) (Ev.bind (rcover_ev lo hi bl bh) ?_))
    exact Ev.congr (fun k => if_pos rfl) (Ev.bind (row_ev _ (covR_len lo hi)) (Ev.bind (sameRow_ev _ (covR_len lo hi)) e3))
  unfold sawyerlaw17_TileAsks.f
  refine Ev.bind awake_ev (Ev.bind (new_ev s bs) (Ev.bind (rnew_ev s bs) ?_))
  exact Ev.congr (fun k => (if_pos rfl).trans (if_pos rfl)) (Ev.bind (row_ev _ (newR_len s)) (Ev.bind (sameRow_ev _ (newR_len s)) e2))
end Go.Proofs.YtopacnaiedlaaaaDoor.Pure
end
