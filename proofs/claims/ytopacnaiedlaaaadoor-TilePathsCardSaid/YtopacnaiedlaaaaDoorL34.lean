-- JOINED BY A PROGRAM OF THIS PLACE (wip/tools/pack.py) out of: TPathP TAwake
import Derived.Test.YtopacnaiedlaaaaDoorL13
import Derived.Test.YtopacnaiedlaaaaDoorL29
import Derived.Test.YtopacnaiedlaaaaDoorL31
import Derived.Test.YtopacnaiedlaaaaDoorL33
section
/-
  tile.PathNodes, tile.ProofNodes, and the document's, as plain lists of lists of pairs.
-/
namespace Go.Proofs.YtopacnaiedlaaaaDoor.F
open Go.RowKit Go.Proofs.YtopacnaiedlaaaaDoor Go.Proofs.YtopacnaiedlaaaaDoorW.PrintWords Go.Proofs.YtopacnaiedlaaaaDoorW.PrintLast Go.Proofs.YtopacnaiedlaaaaDoorW.PrintMore
set_option linter.unusedVariables false
set_option linter.unusedSimpArgs false
def C (lo hi : Nat) : List P2 := (covR (lo : Int) (hi : Int)).1
theorem C_len (lo hi : Nat) : (C lo hi).length ≤ 41 := by
  unfold C covR
  split
  · exact cov_len 41 _ _
  · exact Nat.zero_le _
def mm29 (L : List (List P2)) : List (List S29) := L.map m29
theorem mm29_len (L : List (List P2)) : (mm29 L).length = L.length := List.length_map _
theorem mm29_snoc (L : List (List P2)) (p : List P2) : mm29 L ++ [m29 p] = mm29 (L ++ [p]) := by simp [mm29]
theorem mm29_rev (L : List (List P2)) : (mm29 L).reverse = mm29 L.reverse := by simp [mm29]
def mid (lo hi : Nat) : Nat := lo + Hs.cut (hi - lo)
def pth : Nat → Nat → Nat → Nat → List (List P2)
  | 0, _, _, _ => []
  | e + 1, i, lo, hi => if hi - lo ≤ 1 then [] else if i < mid lo hi then pth e i lo (mid lo hi) ++ [C (mid lo hi) hi] else pth e i (mid lo hi) hi ++ [C lo (mid lo hi)]
def prf : Nat → Nat → Nat → Nat → Bool → List (List P2)
  | 0, m, lo, hi, own => if own = true then [] else [C lo hi]
  | e + 1, m, lo, hi, own => if m = hi then (if own = true then [] else [C lo hi]) else if m ≤ mid lo hi then prf e m lo (mid lo hi) own ++ [C (mid lo hi) hi] else prf e m (mid lo hi) hi false ++ [C lo (mid lo hi)]
def down : Nat → Nat → Nat → Nat → List (List P2) × Nat
  | 0, m, lo, hi => ([], lo)
  | e + 1, m, lo, hi => if m = hi then ([], lo) else if m ≤ mid lo hi then (C (mid lo hi) hi :: (down e m lo (mid lo hi)).1, (down e m lo (mid lo hi)).2) else (C lo (mid lo hi) :: (down e m (mid lo hi) hi).1, (down e m (mid lo hi) hi).2)
theorem pth_len : ∀ e i lo hi, (pth e i lo hi).length ≤ e
  | 0, _, _, _ => Nat.le_refl _
  | e + 1, i, lo, hi => by
    have h1 := pth_len e i lo (mid lo hi)
    have h2 := pth_len e i (mid lo hi) hi
    unfold pth
    split
    · exact Nat.zero_le _
    · split
      · rw [List.length_append, List.length_singleton]; omega
      · rw [List.length_append, List.length_singleton]; omega
theorem prf_len : ∀ e m lo hi own, (prf e m lo hi own).length ≤ e + 1
  | 0, _, _, _, own => by
    unfold prf
    split <;> simp
  | e + 1, m, lo, hi, own => by
    have h1 := prf_len e m lo (mid lo hi) own
    have h2 := prf_len e m (mid lo hi) hi false
    unfold prf
    split
    · split <;> simp
    · split
      · rw [List.length_append, List.length_singleton]; omega
      · rw [List.length_append, List.length_singleton]; omega
theorem down_len : ∀ e m lo hi, (down e m lo hi).1.length ≤ e
  | 0, _, _, _ => Nat.le_refl _
  | e + 1, m, lo, hi => by
    have h1 := down_len e m lo (mid lo hi)
    have h2 := down_len e m (mid lo hi) hi
    unfold down
    split
    · exact Nat.zero_le _
    · split
      · rw [List.length_cons]; omega
      · rw [List.length_cons]; omega
theorem mid_lt (lo hi : Nat) (h : 2 ≤ hi - lo) : lo < mid lo hi ∧ mid lo hi < hi := by
  have a := Hs.cut_pos (hi - lo)
  have b := Hs.cut_lt (hi - lo) h
  unfold mid
  omega
theorem mid_half (lo hi e : Nat) (h : 2 ≤ hi - lo) (he : hi - lo ≤ 2 ^ (e + 1)) : mid lo hi - lo ≤ 2 ^ e ∧ hi - mid lo hi ≤ 2 ^ e := by
  have := cut_half (hi - lo) e h he
  have b := Hs.cut_lt (hi - lo) h
  unfold mid
  omega
theorem down_ge : ∀ e m lo hi, lo < m → m ≤ hi → hi - lo ≤ 2 ^ e → lo ≤ (down e m lo hi).2
  | 0, m, lo, hi, _, _, _ => Nat.le_refl _
  | e + 1, m, lo, hi, h1, h2, h3 => by
    unfold down
    by_cases hm : m = hi
    · rw [if_pos hm]; exact Nat.le_refl _
    · have hl := mid_lt lo hi (by omega)
      have hh := mid_half lo hi e (by omega) h3
      rw [if_neg hm]
      by_cases hk : m ≤ mid lo hi
      · rw [if_pos hk]
        exact down_ge e m lo (mid lo hi) h1 hk hh.1
      · rw [if_neg hk]
        have := down_ge e m (mid lo hi) hi (by omega) h2 hh.2
        show lo ≤ (down e m (mid lo hi) hi).2
        omega
theorem prf_down : ∀ e m lo hi own, lo < m → m ≤ hi → hi - lo ≤ 2 ^ e → prf e m lo hi own = (if own = true ∧ (down e m lo hi).2 = lo then [] else [C (down e m lo hi).2 m]) ++ (down e m lo hi).1.reverse
  | 0, m, lo, hi, own, h1, h2, h3 => by
    obtain rfl : m = hi := by simp at h3; omega
    unfold prf down
    cases own <;> simp
  | e + 1, m, lo, hi, own, h1, h2, h3 => by
    unfold prf down
    by_cases hm : m = hi
    · rw [if_pos hm, if_pos hm]
      subst hm
      cases own <;> simp
    · have hl := mid_lt lo hi (by omega)
      have hh := mid_half lo hi e (by omega) h3
      rw [if_neg hm, if_neg hm]
      by_cases hk : m ≤ mid lo hi
      · rw [if_pos hk, if_pos hk, prf_down e m lo (mid lo hi) own h1 hk hh.1, List.reverse_cons, List.append_assoc]
      · rw [if_neg hk, if_neg hk, prf_down e m (mid lo hi) hi false (by omega) h2 hh.2, List.reverse_cons, List.append_assoc]
        have := down_ge e m (mid lo hi) hi (by omega) h2 hh.2
        rw [if_neg (by simp), if_neg (by rintro ⟨_, h⟩; omega)]
theorem cut_ev (lo hi : Nat) (h : 2 ≤ hi - lo) (hb : hi ≤ 1099511627776) : tile_cut.f (lo : Int) (hi : Int) = some ((mid lo hi : Nat) : Int) := by
  have hl := mid_lt lo hi h
  unfold tile_cut.f
  have hb40 : bitLen (hi - lo - 1) ≤ 40 := bitLen_le (by have : (2 : Nat) ^ 40 = 1099511627776 := rfl; omega)
  have hb1 := bitLen_pos (n := hi - lo - 1) (by omega)
  have hp := pow_le40 (bitLen (hi - lo - 1) - 1) (by omega)
  have hpp := Nat.two_pow_pos (bitLen (hi - lo - 1) - 1)
  have hw : IntKind.u64.wrap (wrap64 ((wrap64 ((hi : Int) - (lo : Int))) - 1)) = ((hi - lo - 1 : Nat) : Int) := by
    rw [wr64 ((hi : Int) - (lo : Int)) (by omega), wr64 (((hi : Int) - (lo : Int)) - 1) (by omega), wu64 _ (by omega)]
    omega
  have hw2 : wrap64 ((bitLen (hi - lo - 1) : Int) - 1) = ((bitLen (hi - lo - 1) - 1 : Nat) : Int) := by
    rw [wr64 _ (by omega)]
    omega
  rw [hw, len_some _ (by omega), Option.bind_some, hw2, if_pos (by omega), shl_one _ (by omega), wr64 _ (by omega)]
  rfl
theorem cover_C (lo hi : Nat) (h1 : lo ≤ 1099511627776) (h2 : hi ≤ 1099511627776) : Ev (fun k => tile_Cover.f k (lo : Int) (hi : Int)) (m29 (C lo hi), (covR (lo : Int) (hi : Int)).2) := cover_ev _ _ (by omega) (by omega)
/-! ### the program's -/
theorem splitP_from : ∀ (e i lo hi : Nat) (out : List (List P2)), lo ≤ i → i < hi → hi - lo ≤ 2 ^ e → hi ≤ 1099511627776 → out.length + e ≤ 100 →
    ∃ a b : Int, Ev (fun k => splitP.l0 k (i : Int) (lo : Int) (hi : Int) (mm29 out)) (mm29 (out ++ (pth e i lo hi).reverse), a, b)
  | e, i, lo, hi, out, h1, h2, h3, h4, h5 => by
    by_cases h0 : hi - lo ≤ 1
    · refine ⟨lo, hi, Ev.step (f := fun _ => some _) (fun k => ?_) (Ev.now _)⟩
      simp only [splitP.l0, onP.f]
      rw [wr64 _ (by omega), Option.bind_some, if_neg (by rw [decide_eq_true_eq]; omega)]
      cases e with
      | zero => simp [pth]
      | succ e => rw [pth, if_pos h0, List.reverse_nil, List.append_nil]
    · cases e with
      | zero => simp at h3; omega
      | succ e =>
        have hl := mid_lt lo hi (by omega)
        have hh := mid_half lo hi e (by omega) h3
        rw [pth, if_neg h0]
        by_cases hk : i < mid lo hi
        · obtain ⟨a, b, hr⟩ := splitP_from e i lo (mid lo hi) (out ++ [C (mid lo hi) hi]) h1 hk hh.1 (by omega) (by rw [List.length_append, List.length_singleton]; omega)
          rw [List.append_assoc, List.singleton_append] at hr
          rw [if_pos hk, List.reverse_append, List.reverse_singleton, List.singleton_append]
          refine ⟨a, b, Ev.step (f := fun k => (tile_Cover.f k ((mid lo hi : Nat) : Int) (hi : Int)).bind fun t => splitP.l0 k (i : Int) (lo : Int) ((mid lo hi : Nat) : Int) (mm29 out ++ [t.1])) (fun k => ?_) (Ev.bind (f := fun k t => splitP.l0 k (i : Int) (lo : Int) ((mid lo hi : Nat) : Int) (mm29 out ++ [t.1])) (cover_C (mid lo hi) hi (by omega) (by omega)) (Ev.congr (fun k => ?_) hr))⟩
          · simp only [splitP.l0, onP.f, leftP.f]
            rw [wr64 _ (by omega), Option.bind_some, if_pos (by rw [decide_eq_true_eq]; omega), cut_ev lo hi (by omega) h4, Option.bind_some, Option.bind_some, if_pos (by rw [decide_eq_true_eq]; omega)]
            congr 1
            funext t
            rw [mm29_len, if_pos (by omega)]
          · rw [mm29_snoc]
        · obtain ⟨a, b, hr⟩ := splitP_from e i (mid lo hi) hi (out ++ [C lo (mid lo hi)]) (by omega) h2 hh.2 (by omega) (by rw [List.length_append, List.length_singleton]; omega)
          rw [List.append_assoc, List.singleton_append] at hr
          rw [if_neg hk, List.reverse_append, List.reverse_singleton, List.singleton_append]
          refine ⟨a, b, Ev.step (f := fun k => (tile_Cover.f k (lo : Int) ((mid lo hi : Nat) : Int)).bind fun t => splitP.l0 k (i : Int) ((mid lo hi : Nat) : Int) (hi : Int) (mm29 out ++ [t.1])) (fun k => ?_) (Ev.bind (f := fun k t => splitP.l0 k (i : Int) ((mid lo hi : Nat) : Int) (hi : Int) (mm29 out ++ [t.1])) (cover_C lo (mid lo hi) (by omega) (by omega)) (Ev.congr (fun k => ?_) hr))⟩
          · simp only [splitP.l0, onP.f, leftP.f]
            rw [wr64 _ (by omega), Option.bind_some, if_pos (by rw [decide_eq_true_eq]; omega), cut_ev lo hi (by omega) h4, Option.bind_some, Option.bind_some, if_neg (by rw [decide_eq_true_eq]; omega)]
            congr 1
            funext t
            rw [mm29_len, if_pos (by omega)]
          · rw [mm29_snoc]
theorem splitQ_from : ∀ (e m lo hi : Nat) (out : List (List P2)), lo < m → m ≤ hi → hi - lo ≤ 2 ^ e → hi ≤ 1099511627776 → out.length + e ≤ 100 →
    Ev (fun k => splitQ.l0 k (m : Int) (lo : Int) (hi : Int) (mm29 out)) (mm29 (out ++ (down e m lo hi).1), ((down e m lo hi).2 : Int), (m : Int))
  | e, m, lo, hi, out, h1, h2, h3, h4, h5 => by
    by_cases h0 : m = hi
    · refine Ev.step (f := fun _ => some _) (fun k => ?_) (Ev.now _)
      simp only [splitQ.l0, onQ.f]
      rw [Option.bind_some, if_neg (by rw [decide_eq_true_eq]; omega)]
      cases e with
      | zero => simp [down, h0]
      | succ e => rw [down, if_pos h0, List.append_nil, h0]
    · cases e with
      | zero => simp at h3; omega
      | succ e =>
        have hl := mid_lt lo hi (by omega)
        have hh := mid_half lo hi e (by omega) h3
        rw [down, if_neg h0]
        by_cases hk : m ≤ mid lo hi
        · have hr := splitQ_from e m lo (mid lo hi) (out ++ [C (mid lo hi) hi]) h1 hk hh.1 (by omega) (by rw [List.length_append, List.length_singleton]; omega)
          rw [List.append_assoc, List.singleton_append] at hr
          rw [if_pos hk]
          refine Ev.step (f := fun k => (tile_Cover.f k ((mid lo hi : Nat) : Int) (hi : Int)).bind fun t => splitQ.l0 k (m : Int) (lo : Int) ((mid lo hi : Nat) : Int) (mm29 out ++ [t.1])) (fun k => ?_) (Ev.bind (f := fun k t => splitQ.l0 k (m : Int) (lo : Int) ((mid lo hi : Nat) : Int) (mm29 out ++ [t.1])) (cover_C (mid lo hi) hi (by omega) (by omega)) (Ev.congr (fun k => ?_) hr))
          · simp only [splitQ.l0, onQ.f, leftQ.f]
            rw [Option.bind_some, if_pos (by rw [decide_eq_true_eq]; omega), cut_ev lo hi (by omega) h4, Option.bind_some, Option.bind_some, if_pos (by rw [decide_eq_true_eq]; omega)]
            congr 1
            funext t
            rw [mm29_len, if_pos (by omega)]
          · rw [mm29_snoc]
        · have hr := splitQ_from e m (mid lo hi) hi (out ++ [C lo (mid lo hi)]) (by omega) h2 hh.2 (by omega) (by rw [List.length_append, List.length_singleton]; omega)
          rw [List.append_assoc, List.singleton_append] at hr
          rw [if_neg hk]
          refine Ev.step (f := fun k => (tile_Cover.f k (lo : Int) ((mid lo hi : Nat) : Int)).bind fun t => splitQ.l0 k (m : Int) ((mid lo hi : Nat) : Int) (hi : Int) (mm29 out ++ [t.1])) (fun k => ?_) (Ev.bind (f := fun k t => splitQ.l0 k (m : Int) ((mid lo hi : Nat) : Int) (hi : Int) (mm29 out ++ [t.1])) (cover_C lo (mid lo hi) (by omega) (by omega)) (Ev.congr (fun k => ?_) hr))
          · simp only [splitQ.l0, onQ.f, leftQ.f]
            rw [Option.bind_some, if_pos (by rw [decide_eq_true_eq]; omega), cut_ev lo hi (by omega) h4, Option.bind_some, Option.bind_some, if_neg (by rw [decide_eq_true_eq]; omega)]
            congr 1
            funext t
            rw [mm29_len, if_pos (by omega)]
          · rw [mm29_snoc]
def pathN (i n : Int) : List (List P2) × Int := if 1 ≤ n ∧ n ≤ 1099511627776 ∧ 0 ≤ i ∧ i < n then (pth 40 i.toNat 0 n.toNat, 0) else ([], 8)
def proofN (m n : Int) : List (List P2) × Int := if 1 ≤ m ∧ m ≤ n ∧ n ≤ 1099511627776 then (prf 40 m.toNat 0 n.toNat true, 0) else ([], 8)
theorem pathNodes_ev (i n : Int) (h1 : -9223372036854775808 ≤ i ∧ i ≤ 9223372036854775807) (h2 : -9223372036854775808 ≤ n ∧ n ≤ 9223372036854775807) : Ev (fun k => tile_PathNodes.f k i n) (mm29 (pathN i n).1, (pathN i n).2) := by
  unfold pathN
  by_cases c : 1 ≤ n ∧ n ≤ 1099511627776 ∧ 0 ≤ i ∧ i < n
  · obtain ⟨a, rfl⟩ := Int.eq_ofNat_of_zero_le c.2.2.1
    obtain ⟨b, rfl⟩ := Int.eq_ofNat_of_zero_le (show 0 ≤ n by omega)
    rw [if_pos c, Int.toNat_natCast, Int.toNat_natCast]
    obtain ⟨x, y, hs⟩ := splitP_from 40 a 0 b [] (by omega) (by omega) (by have : (2 : Nat) ^ 40 = 1099511627776 := rfl; omega) (by omega) (by simp)
    rw [List.nil_append, ← mm29_rev] at hs
    have hs' : Ev (fun k => splitP.f k (b : Int) 0 (a : Int)) ((mm29 (pth 40 a 0 b)).reverse, x, y) := hs
    refine Ev.congr (f := fun k => (splitP.f k (b : Int) 0 (a : Int)).bind fun t => some (t.1.reverse, 0)) (fun k => ?_) (Ev.bind (f := fun _ t => some (t.1.reverse, 0)) hs' (Ev.congr (fun _ => ?_) (Ev.now _)))
    · unfold tile_PathNodes.f
      rw [if_neg (by omega), if_neg (by omega), if_neg (by omega), if_neg (by omega)]
    · rw [List.reverse_reverse]
  · rw [if_neg c]
    refine Ev.congr (fun k => ?_) (Ev.now _)
    unfold tile_PathNodes.f
    by_cases c1 : n < 1
    · rw [if_pos c1]; rfl
    · rw [if_neg c1]
      by_cases c2 : 1099511627776 < n
      · rw [if_pos c2]; rfl
      · rw [if_neg c2]
        by_cases c3 : i < 0
        · rw [if_pos c3]; rfl
        · rw [if_neg c3, if_pos (by omega)]; rfl
theorem proofNodes_ev (m n : Int) (h1 : -9223372036854775808 ≤ m ∧ m ≤ 9223372036854775807) (h2 : -9223372036854775808 ≤ n ∧ n ≤ 9223372036854775807) : Ev (fun k => tile_ProofNodes.f k m n) (mm29 (proofN m n).1, (proofN m n).2) := by
  unfold proofN
  by_cases c : 1 ≤ m ∧ m ≤ n ∧ n ≤ 1099511627776
  · obtain ⟨a, rfl⟩ := Int.eq_ofNat_of_zero_le (show 0 ≤ m by omega)
    obtain ⟨b, rfl⟩ := Int.eq_ofNat_of_zero_le (show 0 ≤ n by omega)
    rw [if_pos c, Int.toNat_natCast, Int.toNat_natCast]
    have h40 : b - 0 ≤ 2 ^ 40 := by have : (2 : Nat) ^ 40 = 1099511627776 := rfl; omega
    have hs := splitQ_from 40 a 0 b [] (by omega) (by omega) h40 (by omega) (by simp)
    rw [List.nil_append] at hs
    have hs' : Ev (fun k => splitQ.f k (b : Int) 0 (a : Int)) (mm29 (down 40 a 0 b).1, ((down 40 a 0 b).2 : Int), (a : Int)) := hs
    have hpd := prf_down 40 a 0 b true (by omega) (by omega) h40
    rw [hpd]
    have hdl := down_len 40 a 0 b
    obtain ⟨q, hq⟩ : ∃ q, q = (down 40 a 0 b).2 := ⟨_, rfl⟩
    have hql : q ≤ a := by
      have : ∀ e m lo hi, lo < m → m ≤ hi → hi - lo ≤ 2 ^ e → (down e m lo hi).2 < m := by
        intro e
        induction e with
        | zero => intro m lo hi h _ _; exact h
        | succ e ih =>
          intro m lo hi h1 h2 h3
          unfold down
          by_cases hm : m = hi
          · rw [if_pos hm]; exact h1
          · have hl := mid_lt lo hi (by omega)
            have hh := mid_half lo hi e (by omega) h3
            rw [if_neg hm]
            by_cases hk : m ≤ mid lo hi
            · rw [if_pos hk]; exact ih m lo (mid lo hi) h1 hk hh.1
            · rw [if_neg hk]; exact ih m (mid lo hi) hi (by omega) h2 hh.2
      rw [hq]
      have := this 40 a 0 b (by omega) (by omega) h40
      omega
    have hstep : ∀ k, tile_ProofNodes.f k (a : Int) (b : Int) = (splitQ.f k (b : Int) 0 (a : Int)).bind fun t => if 0 < t.2.1 then (tile_Cover.f k t.2.1 t.2.2).bind fun l => if 0 < t.1.length ∧ (t.1.length + 1) * 24 ≤ 140737488355328 then some (l.1 :: t.1.reverse, 0) else none else some (t.1.reverse, 0) := fun k => by
      unfold tile_ProofNodes.f
      rw [if_neg (by omega), if_neg (by omega), if_neg (by omega)]
    refine Ev.congr hstep (Ev.bind (f := fun k t => if 0 < t.2.1 then (tile_Cover.f k t.2.1 t.2.2).bind fun l => if 0 < t.1.length ∧ (t.1.length + 1) * 24 ≤ 140737488355328 then some (l.1 :: t.1.reverse, 0) else none else some (t.1.reverse, 0)) hs' ?_)
    rw [← hq]
    dsimp only
    by_cases h0 : q = 0
    · refine Ev.congr (fun k => ?_) (Ev.now _)
      rw [if_neg (by omega), if_pos ⟨rfl, h0⟩, List.nil_append, mm29_rev]
    · have hpos : 0 < (down 40 a 0 b).1.length := by
        rcases Nat.eq_zero_or_pos (down 40 a 0 b).1.length with hz | hz
        · exfalso
          apply h0
          rw [hq]
          by_cases hm : a = b
          · show (down (39 + 1) a 0 b).2 = 0
            rw [down, if_pos hm]
          · have hz' : (down (39 + 1) a 0 b).1.length = 0 := hz
            rw [down, if_neg hm] at hz'
            split at hz' <;> simp at hz'
        · exact hz
      refine Ev.congr (f := fun k => (tile_Cover.f k ((q : Nat) : Int) (a : Int)).bind fun l => some (l.1 :: (mm29 (down 40 a 0 b).1).reverse, 0)) (fun k => ?_) (Ev.bind (f := fun _ l => some (l.1 :: (mm29 (down 40 a 0 b).1).reverse, 0)) (cover_C q a (by omega) (by omega)) (Ev.congr (fun _ => ?_) (Ev.now _)))
      · rw [if_pos (by omega)]
        congr 1
        funext l
        exact if_pos ⟨by rw [mm29_len]; exact hpos, by rw [mm29_len]; omega⟩
      · rw [if_neg (fun h => h0 h.2), List.singleton_append, mm29_rev]
        rfl
  · rw [if_neg c]
    refine Ev.congr (fun k => ?_) (Ev.now _)
    unfold tile_ProofNodes.f
    by_cases c1 : m < 1
    · rw [if_pos c1]; rfl
    · rw [if_neg c1]
      by_cases c2 : n < m
      · rw [if_pos c2]; rfl
      · rw [if_neg c2, if_pos (by omega)]; rfl
/-! ### the document's -/
/-! ### rows of rows turned and compared -/
theorem getL29 (L : List (List P2)) (i : Nat) (h : i < L.length) : rd_L2 (mm29 L) (i : Int) = m29 (L.getD i []) := by
  unfold rd_L2 mm29
  rw [Int.toNat_natCast, List.getD_eq_getElem?_getD, List.getElem?_map, List.getElem?_eq_getElem h, List.getD_eq_getElem?_getD, List.getElem?_eq_getElem h]
  rfl
end Go.Proofs.YtopacnaiedlaaaaDoor.F
end
section
/-
  The tile laws' awake: the document's example comes out.
-/
namespace Go.Proofs.YtopacnaiedlaaaaDoor.F
open Go.RowKit Go.Proofs.YtopacnaiedlaaaaDoor Go.Proofs.YtopacnaiedlaaaaDoorW.PrintWords Go.Proofs.YtopacnaiedlaaaaDoorW.PrintLast Go.Proofs.YtopacnaiedlaaaaDoorW.PrintMore
set_option linter.unusedVariables false
set_option linter.unusedSimpArgs false
theorem aw1 : newR 3 = ([(0, 3), (1, 1), (2, 0)], 0) := by decide +kernel
theorem aw2 : covR 0 5 = ([(2, 0), (0, 4)], 0) := by decide +kernel
theorem aw3 : pathN 2 3 = ([[(1, 0)]], 0) := by decide +kernel
theorem awake_ev : Ev (fun k => sawyerlaw17_awake.f k) true := by
  have h1 := new_ev 3 (by decide)
  have h2 := cover_ev 0 5 (by decide) (by decide)
  have h3 := pathNodes_ev 2 3 (by decide) (by decide)
  rw [aw1] at h1
  rw [aw2] at h2
  rw [aw3] at h3
  unfold sawyerlaw17_awake.f
  exact Ev.bind h1 (Ev.bind h2 (Ev.bind h3 (Ev.congr (fun _ => by decide +kernel) (Ev.now _))))
end Go.Proofs.YtopacnaiedlaaaaDoor.F
end
