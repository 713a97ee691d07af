-- JOINED BY A PROGRAM OF THIS PLACE (wip/tools/pack.py) out of: TFoldP
import Derived.Test.YtopacnaiedlaaaaDoorL25
import Derived.Test.YtopacnaiedlaaaaDoorL28
import Derived.Test.YtopacnaiedlaaaaDoorL34
import Derived.Test.YtopacnaiedlaaaaDoorL38
section
/-
  Nodes' hashes as one: what stands for leaves, folded, is their root (plain lists).
-/
namespace Go.Proofs.YtopacnaiedlaaaaDoor.F
open Go.RowKit Go.Proofs.YtopacnaiedlaaaaDoor Go.Proofs.YtopacnaiedlaaaaDoorW.PrintWords Go.Proofs.YtopacnaiedlaaaaDoorW.PrintLast Go.Proofs.YtopacnaiedlaaaaDoorW.PrintMore
set_option linter.unusedVariables false
set_option linter.unusedSimpArgs false
/-- nodes' hashes as one, from the right -/
def foldR : List ByteArray → ByteArray
  | [] => Hs.root []
  | [x] => x
  | x :: y :: r => Hs.node x (foldR (y :: r))
theorem foldR_two (x : ByteArray) (l : List ByteArray) (h : 0 < l.length) : foldR (x :: l) = Hs.node x (foldR l) := by
  cases l with
  | nil => simp at h
  | cons y r => rfl
theorem small_fold (l : List ByteArray) (h : smalls l) (hp : 0 < l.length) : small (foldR l) := by
  cases l with
  | nil => simp at hp
  | cons x r =>
    cases r with
    | nil => exact h x (List.mem_singleton.2 rfl)
    | cons y r => exact small_node _ _
theorem node_sm (a b : ByteArray) (ha : small a) (hb : small b) : hash_Node.f a b = some (Hs.node a b) := node_some a b (by unfold small at ha hb; omega)
theorem getD_drop (l : List ByteArray) (j : Nat) (h : j < l.length) : l.drop j = l.getD j ByteArray.empty :: l.drop (j + 1) := by
  rw [List.drop_eq_getElem_cons h, List.getD_eq_getElem?_getD, List.getElem?_eq_getElem h]
  rfl
theorem getD_small' (l : List ByteArray) (h : smalls l) (j : Nat) (hj : j < l.length) : small (l.getD j ByteArray.empty) := by
  rw [List.getD_eq_getElem?_getD, List.getElem?_eq_getElem hj]
  exact h _ (List.getElem_mem hj)
theorem tfold_some (l : List ByteArray) (h : smalls l) : ∀ k, k < l.length → tfold l k = some (foldR (l.drop (l.length - 1 - k)))
  | 0, hk => by
    rw [tfold, getD_drop l (l.length - 1 - 0) (by omega), List.drop_of_length_le (by omega)]
    rfl
  | k + 1, hk => by
    have e : l.drop (l.length - 1 - (k + 1)) = l.getD (l.length - 2 - k) ByteArray.empty :: l.drop (l.length - 1 - k) := by
      rw [show l.length - 1 - (k + 1) = l.length - 2 - k by omega, getD_drop l _ (by omega), show l.length - 2 - k + 1 = l.length - 1 - k by omega]
    have hp : 0 < (l.drop (l.length - 1 - k)).length := by rw [List.length_drop]; omega
    rw [tfold, tfold_some l h k (by omega), Option.bind_some, e, foldR_two _ _ hp]
    exact node_sm _ _ (getD_small' l h _ (by omega)) (small_fold _ (smalls_drop h _) hp)
theorem tileFold_some (l : List ByteArray) (h : smalls l) (hl : l.length ≤ 1000000) : tile_Fold.f l = some (foldR l) := by
  unfold tile_Fold.f
  by_cases h0 : l.length = 0
  · rw [if_pos h0, List.eq_nil_of_length_eq_zero h0]
    rfl
  · rw [if_neg h0, if_pos (by omega), tfold_some l h _ (by omega), Nat.sub_self]
    rfl
/-! ### the document's Fold -/
theorem rfold_from (l : List ByteArray) (h : smalls l) (hl : l.length ≤ 1000000) : ∀ j, j < l.length → Ev (fun k => sawyerref16_Fold.l0 k l (foldR (l.drop j)) ((j : Int) - 1)) (foldR l)
  | 0, hj => by
    refine Ev.step (f := fun _ => some _) (fun k => ?_) (Ev.now _)
    simp only [sawyerref16_Fold.l0]
    rw [if_neg (by omega), List.drop_zero]
  | j + 1, hj => by
    have hr := rfold_from l h hl j (by omega)
    have hp : 0 < (l.drop (j + 1)).length := by rw [List.length_drop]; omega
    rw [getD_drop l j (by omega), foldR_two _ _ hp] at hr
    refine Ev.step (fun k => ?_) hr
    simp only [sawyerref16_Fold.l0]
    have hrd : rdOf ByteArray.empty l (((j + 1 : Nat) : Int) - 1) = l.getD j ByteArray.empty := by
      unfold rdOf
      rw [show (((j + 1 : Nat) : Int) - 1).toNat = j by omega]
    rw [if_pos (by omega), if_pos (by omega), if_pos (by omega), hrd, rnode_sm _ _ (getD_small' l h j (by omega)) (small_fold _ (smalls_drop h _) hp), Option.bind_some, wr64 _ (by omega)]
    congr 1
    omega
theorem rfold_ev (l : List ByteArray) (h : smalls l) (hl : l.length ≤ 1000000) : Ev (fun k => sawyerref16_Fold.f k l) (foldR l) := by
  by_cases h0 : l.length = 0
  · have e := List.eq_nil_of_length_eq_zero h0
    subst e
    refine Ev.congr (f := fun k => (sawyerref15_Root.f k ([] : List ByteArray)).bind fun t => some t) (fun k => ?_) (Ev.bind (f := fun _ t => some t) (rroot_ev 0 [] rfl (by omega) (fun x hx => by cases hx)) (Ev.now _))
    unfold sawyerref16_Fold.f
    rw [if_pos (show (([] : List ByteArray).length : Int) = 0 from rfl)]
  · have hr := rfold_from l h hl (l.length - 1) (by omega)
    have e : foldR (l.drop (l.length - 1)) = l.getD (l.length - 1) ByteArray.empty := by
      rw [getD_drop l _ (by omega), List.drop_of_length_le (by omega)]
      rfl
    rw [e] at hr
    refine Ev.congr (fun k => ?_) hr
    unfold sawyerref16_Fold.f
    have hw : wrap64 ((l.length : Int) - 1) = ((l.length - 1 : Nat) : Int) := by rw [wr64 _ (by omega)]; omega
    rw [if_neg (by omega), hw, if_pos (by omega), if_pos (by omega), wr64 _ (by omega)]
    have hrd : rdOf ByteArray.empty l ((l.length - 1 : Nat) : Int) = l.getD (l.length - 1) ByteArray.empty := by unfold rdOf; rw [Int.toNat_natCast]
    rw [hrd]
    congr 1
    omega
/-! ### nodes that stand for leaves, one behind the other -/
def seg (h : List ByteArray) (a b : Nat) : List ByteArray := (h.take b).drop a
theorem seg_len (h : List ByteArray) (a b : Nat) (hb : b ≤ h.length) : (seg h a b).length = b - a := by
  unfold seg
  rw [List.length_drop, List.length_take]
  omega
theorem seg_take (h : List ByteArray) (a b c : Nat) (hb : b ≤ h.length) (hc : a + c ≤ b) : (seg h a b).take c = seg h a (a + c) := by
  unfold seg
  rw [List.take_drop, List.take_take, Nat.min_eq_left hc]
theorem seg_drop (h : List ByteArray) (a b c : Nat) : (seg h a b).drop c = seg h (a + c) b := by
  unfold seg
  rw [List.drop_drop]
theorem seg_small {h : List ByteArray} (hs : smalls h) (a b : Nat) : smalls (seg h a b) := smalls_drop (smalls_take hs b) a
def Tiles : List P2 → Nat → Nat → Prop
  | [], _, n => n = 0
  | p :: r, a, n => (2 ^ p.1 ≤ n ∧ n < 2 ^ (p.1 + 1) ∧ p.2 * 2 ^ p.1 = a) ∧ Tiles r (a + 2 ^ p.1) (n - 2 ^ p.1)
theorem tiles_of : ∀ F a n, n < 2 ^ F → (∀ f, 2 ^ f ≤ n → a % 2 ^ f = 0) → Tiles (cov F a n) a n
  | 0, a, n, h, _ => show n = 0 by simpa using h
  | F + 1, a, n, h, hal => by
    unfold cov
    split
    · rename_i hle
      refine ⟨⟨hle, h, ?_⟩, tiles_of F _ _ (by rw [Nat.pow_succ] at h; omega) (fun g hg => ?_)⟩
      · have := hal F hle
        exact Nat.div_mul_cancel (Nat.dvd_of_mod_eq_zero this)
      · have hgF : g ≤ F := by
          rcases Nat.lt_or_ge F g with h2 | h2
          · exfalso
            have := Nat.pow_le_pow_right (n := 2) (by omega) (show F + 1 ≤ g by omega)
            omega
          · exact h2
        have h1 : 2 ^ g ∣ 2 ^ F := Nat.pow_dvd_pow 2 hgF
        have h2 : 2 ^ g ∣ a := Nat.dvd_trans h1 (Nat.dvd_of_mod_eq_zero (hal F hle))
        exact Nat.mod_eq_zero_of_dvd (Nat.dvd_add h2 h1)
    · rename_i hle
      exact tiles_of F a n (by omega) hal
def al (a b : Nat) : Prop := a % 2 ^ bitLen (b - a - 1) = 0
theorem al_pow {a b : Nat} (h : al a b) (hab : a < b) : ∀ f, 2 ^ f ≤ b - a → a % 2 ^ f = 0 := fun f hf => by
  have hfl : f ≤ bitLen (b - a - 1) := by
    rcases Nat.lt_or_ge (bitLen (b - a - 1)) f with h2 | h2
    · exfalso
      have h3 := (bitLen_spec (b - a - 1)).1
      have h4 := Nat.pow_le_pow_right (n := 2) (by omega) (show bitLen (b - a - 1) + 1 ≤ f by omega)
      rw [Nat.pow_succ] at h4
      have := Nat.two_pow_pos (bitLen (b - a - 1))
      omega
    · exact h2
  exact Nat.mod_eq_zero_of_dvd (Nat.dvd_trans (Nat.pow_dvd_pow 2 hfl) (Nat.dvd_of_mod_eq_zero h))
theorem C_al {a b : Nat} (h : al a b) (hab : a < b) (hb : b ≤ 1099511627776) : covR (a : Int) (b : Int) = (cov 41 a (b - a), 0) := by
  unfold covR
  have e : ((b : Int) - (a : Int)).toNat = b - a := by omega
  rw [e, Int.toNat_natCast, if_pos ⟨by omega, by omega, by omega, h⟩]
theorem C_tiles {a b : Nat} (h : al a b) (hab : a < b) (hb : b ≤ 1099511627776) : Tiles (C a b) a (b - a) := by
  unfold C
  rw [C_al h hab hb]
  exact tiles_of 41 a (b - a) (by have : (2 : Nat) ^ 41 = 2199023255552 := rfl; omega) (al_pow h hab)
def rootsOf (h : List ByteArray) : List P2 → List ByteArray
  | [] => []
  | p :: r => Hs.root (seg h (p.2 * 2 ^ p.1) (p.2 * 2 ^ p.1 + 2 ^ p.1)) :: rootsOf h r
theorem rootsOf_len (h : List ByteArray) : ∀ c, (rootsOf h c).length = c.length
  | [] => rfl
  | p :: r => by rw [rootsOf, List.length_cons, List.length_cons, rootsOf_len h r]
theorem rootsOf_small {h : List ByteArray} (hs : smalls h) : ∀ c, smalls (rootsOf h c)
  | [] => fun x hx => by cases hx
  | p :: r => fun x hx => by
    rcases List.mem_cons.1 hx with rfl | hx
    · exact small_root _ (seg_small hs _ _)
    · exact rootsOf_small hs r x hx
theorem tiles_fold (h : List ByteArray) : ∀ (c : List P2) (a n : Nat), Tiles c a n → 0 < n → a + n ≤ h.length → foldR (rootsOf h c) = Hs.root (seg h a (a + n))
  | [], a, n, ht, hn, _ => by
    have : n = 0 := ht
    omega
  | p :: r, a, n, ⟨⟨h1, h2, h3⟩, ht⟩, hn, hl => by
    rw [rootsOf, h3]
    have hpp := Nat.two_pow_pos p.1
    have hp2 : 2 ^ (p.1 + 1) = 2 * 2 ^ p.1 := by rw [Nat.pow_succ]; omega
    cases r with
    | nil =>
      have h0 : n - 2 ^ p.1 = 0 := ht
      have e : n = 2 ^ p.1 := by omega
      rw [e]
      rfl
    | cons q r =>
      have hq : 0 < n - 2 ^ p.1 := by
        have := ht.1.1
        have := Nat.two_pow_pos q.1
        omega
      have ih := tiles_fold h (q :: r) (a + 2 ^ p.1) (n - 2 ^ p.1) ht hq (by omega)
      rw [foldR_two _ _ (by rw [rootsOf_len]; simp), ih, show a + 2 ^ p.1 + (n - 2 ^ p.1) = a + n by omega]
      have hsl := seg_len h a (a + n) hl
      have hcut : Hs.cut (seg h a (a + n)).length = 2 ^ p.1 := by
        rw [hsl]
        exact Hs.cut_eq _ p.1 (by omega) (by omega) (by omega)
      have h2 : 2 ≤ (seg h a (a + n)).length := by rw [hsl]; omega
      rw [Hs.root_many _ h2, hcut, seg_take h a (a + n) (2 ^ p.1) hl (by omega), seg_drop]
theorem shl_nn (x e : Nat) (he : e ≤ 64) (h : x * 2 ^ e ≤ 9223372036854775807) : shl .i64 (x : Int) (e : Int) = ((x * 2 ^ e : Nat) : Int) := by
  unfold shl
  rw [Int.toNat_natCast, show IntKind.i64.bits = 64 from rfl, Nat.min_eq_left he, show ((x : Int) * 2 ^ e) = ((x * 2 ^ e : Nat) : Int) by rw [Int.natCast_mul, Int.natCast_pow]; rfl]
  exact IntWalk.i64_in _ (by omega)
theorem kept_ev (h : List ByteArray) (hs : smalls h) (hl : h.length ≤ 100) (f i : Nat) (hb : i * 2 ^ f + 2 ^ f ≤ h.length) : Ev (fun k => sawyerlaw17_kept.f k h (f : Int) (i : Int)) (Hs.root (seg h (i * 2 ^ f) (i * 2 ^ f + 2 ^ f)), true) := by
  have hpp := Nat.two_pow_pos f
  have hf : f ≤ 7 := by
    rcases Nat.lt_or_ge 7 f with h2 | h2
    · exfalso
      have := Nat.pow_le_pow_right (n := 2) (by omega) (show 8 ≤ f by omega)
      have : (2 : Nat) ^ 8 = 256 := rfl
      omega
    · exact h2
  have hi : i ≤ i * 2 ^ f := Nat.le_mul_of_pos_right _ hpp
  have hs1 : shl .i64 (i : Int) (f : Int) = ((i * 2 ^ f : Nat) : Int) := shl_nn i f (by omega) (by omega)
  have hs2 : shl .i64 1 (f : Int) = ((2 ^ f : Nat) : Int) := shl_one f (by omega)
  have hw : wrap64 (((i * 2 ^ f : Nat) : Int) + ((2 ^ f : Nat) : Int)) = ((i * 2 ^ f + 2 ^ f : Nat) : Int) := by
    rw [wr64 _ (by omega)]
    omega
  have hsl := seg_len h (i * 2 ^ f) (i * 2 ^ f + 2 ^ f) hb
  have hr := rroot_ev _ (seg h (i * 2 ^ f) (i * 2 ^ f + 2 ^ f)) rfl (by omega) (seg_small hs _ _)
  refine Ev.congr (f := fun k => (sawyerref15_Root.f k (seg h (i * 2 ^ f) (i * 2 ^ f + 2 ^ f))).bind fun t => some (t, true)) (fun k => ?_) (Ev.bind (f := fun _ t => some (t, true)) hr (Ev.now _))
  unfold sawyerlaw17_kept.f
  rw [if_pos (by omega), if_neg (by omega), if_neg (by omega), hs1, hs2, hw, if_neg (by omega), if_neg (by omega), if_pos (by omega), if_pos (by omega), if_pos (by omega), Int.toNat_natCast, Int.toNat_natCast]
  rfl
theorem tiles_in : ∀ (c : List P2) (a n : Nat), Tiles c a n → ∀ p ∈ c, p.2 * 2 ^ p.1 + 2 ^ p.1 ≤ a + n
  | [], _, _, _, p, hp => by cases hp
  | q :: r, a, n, ⟨⟨h1, h2, h3⟩, ht⟩, p, hp => by
    rcases List.mem_cons.1 hp with rfl | hp
    · omega
    · have := tiles_in r _ _ ht p hp
      omega
theorem rootsOf_snoc (h : List ByteArray) (p : P2) : ∀ c, rootsOf h (c ++ [p]) = rootsOf h c ++ [Hs.root (seg h (p.2 * 2 ^ p.1) (p.2 * 2 ^ p.1 + 2 ^ p.1))]
  | [] => rfl
  | q :: r => by rw [List.cons_append, rootsOf, rootsOf_snoc h p r, rootsOf, List.cons_append]
theorem fold_from (h : List ByteArray) (hs : smalls h) (hl : h.length ≤ 100) (c : List P2) (hc : c.length ≤ 1000) (hin : ∀ p ∈ c, p.2 * 2 ^ p.1 + 2 ^ p.1 ≤ h.length) (d : Nat) : ∀ j, j + d = c.length →
    Ev (fun k => sawyerlaw17_fold.l0 k h (m29 c) (rootsOf h (c.take j)) (j : Int)) (foldR (rootsOf h c), true) := by
  induction d with
  | zero =>
    intro j hj
    refine Ev.step (f := fun _ => some _) (fun k => ?_) (Ev.now _)
    simp only [sawyerlaw17_fold.l0]
    rw [m29_len, if_neg (by omega), List.take_of_length_le (by omega), tileFold_some _ (rootsOf_small hs c) (by rw [rootsOf_len]; omega), Option.bind_some]
  | succ d ih =>
    intro j hj
    have hg : c.getD j (0, 0) ∈ c := by
      rw [List.getD_eq_getElem?_getD, List.getElem?_eq_getElem (show j < c.length by omega)]
      exact List.getElem_mem _
    have ht : c.take (j + 1) = c.take j ++ [c.getD j (0, 0)] := by
      rw [List.take_succ_eq_append_getElem (by omega), List.getD_eq_getElem?_getD, List.getElem?_eq_getElem (by omega)]
      rfl
    have hr := ih (j + 1) (by omega)
    rw [ht, rootsOf_snoc] at hr
    have hk := kept_ev h hs hl _ _ (hin _ hg)
    have hget := get29 c j (by omega)
    generalize c.getD j (0, 0) = p at *
    refine Ev.step (f := fun k => (sawyerlaw17_kept.f k h (p.1 : Int) (p.2 : Int)).bind fun t => if t.2 = true then (if (rootsOf h (c.take j)).length < 8796093022208 then sawyerlaw17_fold.l0 k h (m29 c) (rootsOf h (c.take j) ++ [t.1]) ((j + 1 : Nat) : Int) else none) else some (⟨#[]⟩, false)) (fun k => ?_)
      (Ev.bind (f := fun k t => if t.2 = true then (if (rootsOf h (c.take j)).length < 8796093022208 then sawyerlaw17_fold.l0 k h (m29 c) (rootsOf h (c.take j) ++ [t.1]) ((j + 1 : Nat) : Int) else none) else some (⟨#[]⟩, false)) hk (Ev.congr (fun k => (if_pos rfl).trans (if_pos (by rw [rootsOf_len, List.length_take]; omega))) hr))
    simp only [sawyerlaw17_fold.l0]
    rw [m29_len, if_pos (by omega), if_pos (by omega), hget, wr64 ((j : Int) + 1) (by omega)]
    rfl
theorem fold_ev (h : List ByteArray) (hs : smalls h) (hl : h.length ≤ 100) (c : List P2) (hc : c.length ≤ 1000) (a n : Nat) (ht : Tiles c a n) (hn : 0 < n) (hb : a + n ≤ h.length) :
    Ev (fun k => sawyerlaw17_fold.f k h (m29 c)) (Hs.root (seg h a (a + n)), true) := by
  have hr := fold_from h hs hl c hc (fun p hp => Nat.le_trans (tiles_in c a n ht p hp) hb) c.length 0 (by omega)
  rw [tiles_fold h c a n ht hn hb] at hr
  exact hr
/-! ### the leaves -/
def leavesOf (l : List (List Int)) : List ByteArray := (l.take 60).map Hs.leaf
theorem leaves_length (l : List (List Int)) : (leavesOf l).length = min 60 l.length := by simp [leavesOf]
theorem leaves_smalls (l : List (List Int)) : smalls (leavesOf l) := fun x hx => by
  obtain ⟨y, _, rfl⟩ := List.mem_map.1 hx
  exact small_32 (Hs.leaf_size y)
theorem leaves_from (l : List (List Int)) (hs : ∀ r ∈ l, r.length ≤ 140737488351232) (hb : ∀ r ∈ l, ∀ x ∈ r, 0 ≤ x ∧ x < 256) (d : Nat) : ∀ i, i + d = min 60 l.length → Ev (fun k => sawyerlaw17_leaves.l0 k l ((l.take i).map Hs.leaf) (i : Int)) (leavesOf l) := by
  induction d with
  | zero =>
    intro i hi
    refine Ev.step (f := fun _ => some _) (fun k => ?_) (Ev.now _)
    simp only [sawyerlaw17_leaves.l0]
    have e : (l.take i).map Hs.leaf = leavesOf l := by
      unfold leavesOf
      congr 1
      rcases Nat.le_total 60 l.length with h | h
      · rw [show i = 60 by omega]
      · rw [List.take_of_length_le (by omega), List.take_of_length_le (by omega)]
    rw [e]
    by_cases h1 : (i : Int) < (l.length : Int)
    · rw [if_pos h1, if_neg (by omega)]
    · rw [if_neg h1]
  | succ d ih =>
    intro i hi
    have hil : i < l.length := by omega
    have ht : l.take (i + 1) = l.take i ++ [l.getD i []] := by
      rw [List.take_succ_eq_append_getElem hil, List.getD_eq_getElem?_getD, List.getElem?_eq_getElem hil]
      rfl
    have hm : l.getD i [] ∈ l := by
      rw [List.getD_eq_getElem?_getD, List.getElem?_eq_getElem hil]
      exact List.getElem_mem _
    have hr := ih (i + 1) (by omega)
    rw [ht, List.map_append, List.map_singleton] at hr
    refine Ev.step (fun k => ?_) hr
    simp only [sawyerlaw17_leaves.l0]
    have hrd : rd_L8 l (i : Int) = l.getD i [] := by unfold rd_L8; rw [Int.toNat_natCast]
    rw [if_pos (by omega), if_pos (by omega), if_pos (by omega), hrd, leaf_some _ (hb _ hm) (by have := hs _ hm; omega), Option.bind_some, List.length_map, List.length_take, if_pos (by omega), wr64 _ (by omega)]
    rfl
theorem leaves_ev (l : List (List Int)) (hs : ∀ r ∈ l, r.length ≤ 140737488351232) (hb : ∀ r ∈ l, ∀ x ∈ r, 0 ≤ x ∧ x < 256) : Ev (fun k => sawyerlaw17_leaves.f k l) (leavesOf l) := leaves_from l hs hb _ 0 (Nat.zero_add _)
end Go.Proofs.YtopacnaiedlaaaaDoor.F
end
