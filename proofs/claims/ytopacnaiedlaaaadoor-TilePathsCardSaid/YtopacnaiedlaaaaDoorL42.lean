-- JOINED BY A PROGRAM OF THIS PLACE (wip/tools/pack.py) out of: PureTilePaths
import Derived.Test.YtopacnaiedlaaaaDoorL39
import Derived.Test.YtopacnaiedlaaaaDoorL41
section
/-
  The plain statement of TilePaths: the nodes that stand for each hash of a leaf's path, or of a beginning's proof, as one, are that hash.
-/
namespace Go.Proofs.YtopacnaiedlaaaaDoor.Pure
open Go.RowKit Go.Proofs.YtopacnaiedlaaaaDoor Go.Proofs.YtopacnaiedlaaaaDoor.F Go.Proofs.YtopacnaiedlaaaaDoorW.PrintWords Go.Proofs.YtopacnaiedlaaaaDoorW.PrintLast Go.Proofs.YtopacnaiedlaaaaDoorW.PrintMore
set_option linter.unusedVariables false
set_option linter.unusedSimpArgs false
theorem and65535 (n : Int) : Go.bits .and .i64 n 65535 = n % 65536 := by
  have h127 : (BitVec.ofInt 64 65535).toNat = 2 ^ 16 - 1 := by decide
  have key : (BitVec.ofInt 64 n &&& BitVec.ofInt 64 65535).toNat = (n % ((2 ^ 64 : Nat) : Int)).toNat % 2 ^ 16 := by
    rw [BitVec.toNat_and, BitVec.toNat_ofInt, h127, Nat.and_two_pow_sub_one_eq_mod]
  show IntKind.i64.wrap ((BitVec.ofInt 64 n &&& BitVec.ofInt 64 65535).toNat : Nat) = n % 65536
  rw [key, IntKind.wrap_i64]
  omega
theorem picked (a : Int) (n : Nat) (h : 0 < n) : ∃ i : Nat, Int.tmod (Go.bits .and .i64 a 65535) (n : Int) = (i : Int) ∧ i < n := by
  rw [and65535]
  have h1 := Int.tmod_nonneg (n : Int) (Int.emod_nonneg a (by decide : (65536 : Int) ≠ 0))
  have h2 := Int.tmod_lt_of_pos (a % 65536) (b := (n : Int)) (by omega)
  exact ⟨(Int.tmod (a % 65536) (n : Int)).toNat, by omega, by omega⟩
/-! ### which leaves each row stands for -/
def Stands (h : List ByteArray) (c : List P2) (x : ByteArray) : Prop := ∃ a n, Tiles c a n ∧ 0 < n ∧ a + n ≤ h.length ∧ c.length ≤ 1000 ∧ x = Hs.root (seg h a (a + n))
inductive All2 (h : List ByteArray) : List (List P2) → List ByteArray → Prop
  | nil : All2 h [] []
  | snoc {L : List (List P2)} {p : List ByteArray} {c : List P2} {x : ByteArray} : All2 h L p → Stands h c x → All2 h (L ++ [c]) (p ++ [x])
theorem All2.len {h : List ByteArray} {L : List (List P2)} {p : List ByteArray} (a : All2 h L p) : L.length = p.length := by
  induction a with
  | nil => rfl
  | snoc _ _ ih => rw [List.length_append, List.length_append, ih]; rfl
theorem All2.get {h : List ByteArray} {L : List (List P2)} {p : List ByteArray} (a : All2 h L p) : ∀ j, j < L.length → Stands h (L.getD j []) (p.getD j ByteArray.empty) := by
  induction a with
  | nil => intro j hj; simp at hj
  | @snoc L p c x a s ih =>
    intro j hj
    have hl := a.len
    rw [List.length_append, List.length_singleton] at hj
    by_cases e : j = L.length
    · have e1 : (L ++ [c]).getD j [] = c := by rw [e, List.getD_eq_getElem?_getD, List.getElem?_append_right (Nat.le_refl _), Nat.sub_self]; rfl
      have e2 : (p ++ [x]).getD j ByteArray.empty = x := by rw [e, hl, List.getD_eq_getElem?_getD, List.getElem?_append_right (Nat.le_refl _), Nat.sub_self]; rfl
      rw [e1, e2]
      exact s
    · have e1 : (L ++ [c]).getD j [] = L.getD j [] := by rw [List.getD_eq_getElem?_getD, List.getElem?_append_left (by omega), List.getD_eq_getElem?_getD]
      have e2 : (p ++ [x]).getD j ByteArray.empty = p.getD j ByteArray.empty := by rw [List.getD_eq_getElem?_getD, List.getElem?_append_left (by omega), List.getD_eq_getElem?_getD]
      rw [e1, e2]
      exact ih j (by omega)
theorem stands_C (h : List ByteArray) (hl : h.length ≤ 1000) (a b : Nat) (hal : al a b) (hab : a < b) (hb : b ≤ h.length) : Stands h (C a b) (Hs.root (seg h a b)) :=
  ⟨a, b - a, C_tiles hal hab (by omega), by omega, by omega, Nat.le_trans (C_len a b) (by decide), by rw [show a + (b - a) = b by omega]⟩
theorem al_mid {lo hi : Nat} (h : al lo hi) (h2 : 2 ≤ hi - lo) : al lo (mid lo hi) ∧ al (mid lo hi) hi := by
  have hb := bitLen_pos (n := hi - lo - 1) (by omega)
  have hc := Hs.cut_lt (hi - lo) h2
  have ht := Hs.cut_two (hi - lo) h2
  unfold mid
  obtain ⟨c, hcc⟩ : ∃ c, bitLen (hi - lo - 1) = c + 1 := ⟨bitLen (hi - lo - 1) - 1, by omega⟩
  have he : Hs.cut (hi - lo) = 2 ^ c := by unfold Hs.cut; rw [hcc, Nat.add_sub_cancel]
  unfold al at h ⊢
  rw [hcc] at h
  rw [he] at hc ht ⊢
  have hpp := Nat.two_pow_pos c
  have hdv : 2 ^ c ∣ lo := Nat.dvd_trans (Nat.pow_dvd_pow 2 (Nat.le_succ c)) (Nat.dvd_of_mod_eq_zero h)
  constructor
  · have h1 : bitLen (lo + 2 ^ c - lo - 1) ≤ c := bitLen_le (by omega)
    exact Nat.mod_eq_zero_of_dvd (Nat.dvd_trans (Nat.pow_dvd_pow 2 h1) hdv)
  · have h1 : bitLen (hi - (lo + 2 ^ c) - 1) ≤ c := bitLen_le (by omega)
    exact Nat.mod_eq_zero_of_dvd (Nat.dvd_trans (Nat.pow_dvd_pow 2 h1) (Nat.dvd_add hdv (Nat.dvd_refl _)))
theorem cut_seg (h : List ByteArray) (lo hi : Nat) (hb : hi ≤ h.length) : Hs.cut (seg h lo hi).length = Hs.cut (hi - lo) := by rw [seg_len h lo hi hb]
theorem seg_left (h : List ByteArray) (lo hi : Nat) (hb : hi ≤ h.length) (h2 : 2 ≤ hi - lo) : (seg h lo hi).take (Hs.cut (seg h lo hi).length) = seg h lo (mid lo hi) := by
  have := mid_lt lo hi h2
  rw [cut_seg h lo hi hb]
  unfold mid at this ⊢
  exact seg_take h lo hi _ hb (by omega)
theorem seg_right (h : List ByteArray) (lo hi : Nat) (hb : hi ≤ h.length) : (seg h lo hi).drop (Hs.cut (seg h lo hi).length) = seg h (mid lo hi) hi := by
  rw [cut_seg h lo hi hb, seg_drop]
  rfl
theorem pth_all (h : List ByteArray) (hl : h.length ≤ 1000) : ∀ (e i lo hi : Nat), lo ≤ i → i < hi → hi - lo ≤ 2 ^ e → hi ≤ h.length → al lo hi → All2 h (pth e i lo hi) (Hs.path (seg h lo hi) (i - lo))
  | e, i, lo, hi, h1, h2, h3, h4, h5 => by
    have hsl := seg_len h lo hi h4
    by_cases h0 : hi - lo ≤ 1
    · rw [Hs.path_few _ _ (by rw [hsl]; omega)]
      cases e with
      | zero => exact All2.nil
      | succ e => rw [pth, if_pos h0]; exact All2.nil
    · cases e with
      | zero => simp at h3; omega
      | succ e =>
        have hm := mid_lt lo hi (by omega)
        have hh := mid_half lo hi e (by omega) h3
        have ha := al_mid h5 (by omega)
        have hcut := cut_seg h lo hi h4
        rw [pth, if_neg h0]
        by_cases hk : i < mid lo hi
        · have hr := pth_all h hl e i lo (mid lo hi) h1 hk hh.1 (by omega) ha.1
          rw [if_pos hk, Hs.path_left _ _ (by rw [hsl]; omega) (by rw [hcut]; unfold mid at hk; omega), seg_left h lo hi h4 (by omega), seg_right h lo hi h4]
          exact All2.snoc hr (stands_C h hl _ _ ha.2 hm.2 h4)
        · have hr := pth_all h hl e i (mid lo hi) hi (by omega) h2 hh.2 h4 ha.2
          rw [if_neg hk, Hs.path_right _ _ (by rw [hsl]; omega) (by rw [hcut]; unfold mid at hk; omega), seg_left h lo hi h4 (by omega), seg_right h lo hi h4, hcut, show i - lo - Hs.cut (hi - lo) = i - mid lo hi by unfold mid; omega]
          exact All2.snoc hr (stands_C h hl _ _ ha.1 hm.1 (by omega))
theorem prf_all (h : List ByteArray) (hl : h.length ≤ 1000) : ∀ (e m lo hi : Nat) (own : Bool), lo < m → m ≤ hi → hi - lo ≤ 2 ^ e → hi ≤ h.length → al lo hi → All2 h (prf e m lo hi own) (Hs.sub (m - lo) (seg h lo hi) own)
  | e, m, lo, hi, own, h1, h2, h3, h4, h5 => by
    have hsl := seg_len h lo hi h4
    by_cases h0 : m = hi
    · have hp : prf e m lo hi own = if own = true then [] else [C lo hi] := by
        cases e with
        | zero => rfl
        | succ e => rw [prf, if_pos h0]
      have hs : Hs.sub (m - lo) (seg h lo hi) own = if own = true then [] else [Hs.root (seg h lo hi)] := by
        have := Hs.sub_all (seg h lo hi) own
        rw [hsl] at this
        rw [h0]
        exact this
      rw [hp, hs]
      cases own with
      | true => exact All2.nil
      | false => exact All2.snoc (L := []) (p := []) All2.nil (stands_C h hl lo hi h5 (by omega) h4)
    · cases e with
      | zero => simp at h3; omega
      | succ e =>
        have hm := mid_lt lo hi (by omega)
        have hh := mid_half lo hi e (by omega) h3
        have ha := al_mid h5 (by omega)
        have hcut := cut_seg h lo hi h4
        rw [prf, if_neg h0]
        by_cases hk : m ≤ mid lo hi
        · have hr := prf_all h hl e m lo (mid lo hi) own h1 hk hh.1 (by omega) ha.1
          rw [if_pos hk, Hs.sub_left _ _ _ (by rw [hsl]; omega) (by rw [hsl]; omega) (by rw [hcut]; unfold mid at hk; omega), seg_left h lo hi h4 (by omega), seg_right h lo hi h4]
          exact All2.snoc hr (stands_C h hl _ _ ha.2 hm.2 h4)
        · have hr := prf_all h hl e m (mid lo hi) hi false (by omega) h2 hh.2 h4 ha.2
          rw [if_neg hk, Hs.sub_right _ _ _ (by rw [hsl]; omega) (by rw [hsl]; omega) (by rw [hcut]; unfold mid at hk; omega), seg_left h lo hi h4 (by omega), seg_right h lo hi h4, hcut, show m - lo - Hs.cut (hi - lo) = m - mid lo hi by unfold mid; omega]
          exact All2.snoc hr (stands_C h hl _ _ ha.1 hm.1 (by omega))
/-! ### the law's loops -/
theorem stands_ev (h : List ByteArray) (hs : smalls h) (hl : h.length ≤ 100) (c : List P2) (x : ByteArray) (hst : Stands h c x) : Ev (fun k => sawyerlaw17_fold.f k h (m29 c)) (x, true) := by
  obtain ⟨a, n, h1, h2, h3, h4, rfl⟩ := hst
  exact fold_ev h hs hl c h4 a n h1 h2 h3
theorem l1_ev (h : List ByteArray) (hs : smalls h) (hl : h.length ≤ 100) (L : List (List P2)) (p : List ByteArray) (ha : All2 h L p) (hL : L.length ≤ 1000) (d : Nat) : ∀ j, j + d = L.length → Ev (fun k => sawyerlaw17_TilePaths.l1 k h p (mm29 L) (j : Int)) true := by
  have hlp := ha.len
  induction d with
  | zero =>
    intro j hj
    refine Ev.step (f := fun _ => some _) (fun k => ?_) (Ev.now _)
    simp only [sawyerlaw17_TilePaths.l1]
    rw [mm29_len, if_neg (by omega)]
  | succ d ih =>
    intro j hj
    have hst := ha.get j (by omega)
    have hget := getL29 L j (by omega)
    have hr := ih (j + 1) (by omega)
    have hrd : rdOf ByteArray.empty p (j : Int) = p.getD j ByteArray.empty := by unfold rdOf; rw [Int.toNat_natCast]
    refine Ev.step (f := fun k => (sawyerlaw17_fold.f k h (m29 (L.getD j []))).bind fun t => if t.2 = true then (if t.1.toList = (p.getD j ByteArray.empty).toList then sawyerlaw17_TilePaths.l1 k h p (mm29 L) ((j + 1 : Nat) : Int) else some false) else some false) (fun k => ?_)
      (Ev.bind (f := fun k t => if t.2 = true then (if t.1.toList = (p.getD j ByteArray.empty).toList then sawyerlaw17_TilePaths.l1 k h p (mm29 L) ((j + 1 : Nat) : Int) else some false) else some false) (stands_ev h hs hl _ _ hst) (Ev.congr (fun k => (if_pos rfl).trans (if_pos rfl)) hr))
    simp only [sawyerlaw17_TilePaths.l1]
    have q0 : ((j : Int) < ((L.length : Nat) : Int)) := by omega
    have q1 : (0 : Int) ≤ (j : Int) := by omega
    have q2 : ((j : Int) < (p.length : Int)) := by omega
    have q3 := wr64 ((j : Int) + 1) (by omega)
    rw [mm29_len, if_pos q0, if_pos q1, hget, hrd, q3]
    congr 1
    funext t
    rw [if_pos q2]
    rfl
theorem l0_ev (h : List ByteArray) (hs : smalls h) (hl : h.length ≤ 100) (L : List (List P2)) (p : List ByteArray) (ha : All2 h L p) (hL : L.length ≤ 1000) (L2 : List (List P2)) (p2 : List ByteArray) (ha2 : All2 h L2 p2) (hL2 : L2.length ≤ 1000) (d : Nat) : ∀ j, j + d = L.length → Ev (fun k => sawyerlaw17_TilePaths.l0 k h p p2 (mm29 L) (mm29 L2) (j : Int)) true := by
  have hlp := ha.len
  induction d with
  | zero =>
    intro j hj
    refine Ev.step (fun k => ?_) (l1_ev h hs hl L2 p2 ha2 hL2 L2.length 0 (by omega))
    simp only [sawyerlaw17_TilePaths.l0]
    rw [mm29_len, if_neg (by omega)]
    rfl
  | succ d ih =>
    intro j hj
    have hst := ha.get j (by omega)
    have hget := getL29 L j (by omega)
    have hr := ih (j + 1) (by omega)
    have hrd : rdOf ByteArray.empty p (j : Int) = p.getD j ByteArray.empty := by unfold rdOf; rw [Int.toNat_natCast]
    refine Ev.step (f := fun k => (sawyerlaw17_fold.f k h (m29 (L.getD j []))).bind fun t => if t.2 = true then (if t.1.toList = (p.getD j ByteArray.empty).toList then sawyerlaw17_TilePaths.l0 k h p p2 (mm29 L) (mm29 L2) ((j + 1 : Nat) : Int) else some false) else some false) (fun k => ?_)
      (Ev.bind (f := fun k t => if t.2 = true then (if t.1.toList = (p.getD j ByteArray.empty).toList then sawyerlaw17_TilePaths.l0 k h p p2 (mm29 L) (mm29 L2) ((j + 1 : Nat) : Int) else some false) else some false) (stands_ev h hs hl _ _ hst) (Ev.congr (fun k => (if_pos rfl).trans (if_pos rfl)) hr))
    simp only [sawyerlaw17_TilePaths.l0]
    have q0 : ((j : Int) < ((L.length : Nat) : Int)) := by omega
    have q1 : (0 : Int) ≤ (j : Int) := by omega
    have q2 : ((j : Int) < (p.length : Int)) := by omega
    have q3 := wr64 ((j : Int) + 1) (by omega)
    rw [mm29_len, if_pos q0, if_pos q1, hget, hrd, q3]
    congr 1
    funext t
    rw [if_pos q2]
    rfl
theorem TilePaths (l : List (List Int)) (y1 : l.length * 24 ≤ 140737488351232) (y2 : ∀ r ∈ l, r.length ≤ 140737488351232) (hb : ∀ r ∈ l, ∀ x ∈ r, 0 ≤ x ∧ x < 256) (a : Int) (wa : (Lit.int .i64 a).wf = true) (m : Int) (wm : (Lit.int .i64 m).wf = true) :
    ∃ k, sawyerlaw17_TilePaths.f k l a m = some true := by
  refine Ev.rounds ?_
  have hlen := leaves_length l
  have hsm := leaves_smalls l
  unfold sawyerlaw17_TilePaths.f
  refine Ev.bind awake_ev (Ev.bind (leaves_ev l y2 hb) ?_)
  have hL : (leavesOf l).length ≤ 60 := by omega
  clear hlen
  generalize leavesOf l = h at *
  by_cases h0 : h.length = 0
  · exact Ev.congr (fun k => if_pos (by omega)) (Ev.now _)
  · have hnn : ¬ ((h.length : Int) = 0) := by omega
    obtain ⟨i, hi, hin⟩ := picked a h.length (by omega)
    obtain ⟨q, hq, hqn⟩ := picked m h.length (by omega)
    have hw : wrap64 (1 + (q : Int)) = ((q + 1 : Nat) : Int) := by rw [wr64 _ (by omega)]; omega
    have e1 := path_ev h (i : Int) (by omega) hsm
    have e2 := proof_ev h ((q + 1 : Nat) : Int) (by omega) hsm
    have e3 := pathNodes_ev (i : Int) (h.length : Int) (by omega) (by omega)
    have e4 := proofNodes_ev ((q + 1 : Nat) : Int) (h.length : Int) (by omega) (by omega)
    have p1 : pathR h (i : Int) = (Hs.path h i, 0) := if_pos ⟨by omega, by omega⟩
    have p2 : proofR h ((q + 1 : Nat) : Int) = (Hs.sub (q + 1) h true, 0) := if_pos ⟨by omega, by omega⟩
    have p3 : pathN (i : Int) (h.length : Int) = (pth 40 i 0 h.length, 0) := if_pos ⟨by omega, by omega, by omega, by omega⟩
    have p4 : proofN ((q + 1 : Nat) : Int) (h.length : Int) = (prf 40 (q + 1) 0 h.length true, 0) := if_pos ⟨by omega, by omega, by omega⟩
    rw [p1] at e1
    rw [p2] at e2
    rw [p3] at e3
    rw [p4] at e4
    have h40 : h.length - 0 ≤ 2 ^ 40 := by have : (2 : Nat) ^ 40 = 1099511627776 := rfl; omega
    have hall : seg h 0 h.length = h := by unfold seg; rw [List.take_of_length_le (Nat.le_refl _), List.drop_zero]
    have al0 : al 0 h.length := Nat.zero_mod _
    have a1 := pth_all h (by omega) 40 i 0 h.length (by omega) hin h40 (Nat.le_refl _) al0
    have a2 := prf_all h (by omega) 40 (q + 1) 0 h.length true (by omega) (by omega) h40 (Nat.le_refl _) al0
    rw [hall, Nat.sub_zero] at a1 a2
    have l1 := pth_len 40 i 0 h.length
    have l2 := prf_len 40 (q + 1) 0 h.length true
    have hr := l0_ev h hsm (by omega) _ _ a1 (by omega) _ _ a2 (by omega) (pth 40 i 0 h.length).length 0 (by omega)
    have g1 := a1.len
    have g2 := a2.len
    refine Ev.congr (fun k => if_neg hnn) ?_
    rw [hi, hq, hw]
    refine Ev.bind e1 (Ev.bind e2 (Ev.bind e3 (Ev.bind e4 ?_)))
    refine Ev.congr (fun k => (if_pos rfl).trans ((if_pos rfl).trans ((if_pos rfl).trans (if_pos (by rw [mm29_len, g1])))))  (Ev.step (fun k => ?_) hr)
    simp only [sawyerlaw17_TilePaths.j0]
    rw [if_neg (by rw [mm29_len, g2]; simp)]
    rfl
end Go.Proofs.YtopacnaiedlaaaaDoor.Pure
end
