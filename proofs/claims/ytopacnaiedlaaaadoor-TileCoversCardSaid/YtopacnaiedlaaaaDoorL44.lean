-- JOINED BY A PROGRAM OF THIS PLACE (wip/tools/pack.py) out of: PureTileCovers
import Derived.Test.YtopacnaiedlaaaaDoorL40
import Derived.Test.YtopacnaiedlaaaaDoorL41
section
/-
  The plain statement of TileCovers: the nodes that stand for leaves stand for them one behind the other, from the first to the last; as one they are the root of these.
-/
namespace Go.Proofs.YtopacnaiedlaaaaDoor.Pure
open Go.RowKit Go.Proofs.YtopacnaiedlaaaaDoor Go.Proofs.YtopacnaiedlaaaaDoor.F Go.Proofs.YtopacnaiedlaaaaDoorW.PrintWords Go.Proofs.YtopacnaiedlaaaaDoorW.PrintLast Go.Proofs.YtopacnaiedlaaaaDoorW.PrintMore
set_option linter.unusedVariables false
set_option linter.unusedSimpArgs false
theorem and63 (n : Int) : Go.bits .and .i64 n 63 = n % 64 := by
  have h127 : (BitVec.ofInt 64 63).toNat = 2 ^ 6 - 1 := by decide
  have key : (BitVec.ofInt 64 n &&& BitVec.ofInt 64 63).toNat = (n % ((2 ^ 64 : Nat) : Int)).toNat % 2 ^ 6 := by
    rw [BitVec.toNat_and, BitVec.toNat_ofInt, h127, Nat.and_two_pow_sub_one_eq_mod]
  show IntKind.i64.wrap ((BitVec.ofInt 64 n &&& BitVec.ofInt 64 63).toNat : Nat) = n % 64
  rw [key, IntKind.wrap_i64]
  omega
theorem loop_ev (h : List ByteArray) (hs : smalls h) (hl : h.length ≤ 60) (a b : Nat) (hab : a < b) (hb : b ≤ h.length) (c : List P2) (hc : c.length ≤ 1000) (ht : Tiles c a (b - a)) (d : Nat) : ∀ j a' n', j + d = c.length → a' + n' = b → Tiles (c.drop j) a' n' →
    Ev (fun k => sawyerlaw17_TileCovers.l0 k true h (a : Int) (b : Int) (m29 c) (a' : Int) (j : Int)) true := by
  induction d with
  | zero =>
    intro j a' n' hj hn htj
    rw [List.drop_of_length_le (by omega)] at htj
    have hn0 : n' = 0 := htj
    have hf := fold_ev h hs (by omega) c hc a (b - a) ht (by omega) (by omega)
    rw [show a + (b - a) = b by omega] at hf
    have hsl := seg_len h a b hb
    have hr := root_ev _ (seg h a b) rfl (by omega) (seg_small hs a b)
    refine Ev.step (f := fun k => (sawyerlaw17_fold.f k h (m29 c)).bind fun t => if t.2 = true then (hash_Root.f k (seg h a b)).bind fun u => some (t.1.toList == u.toList) else some false) (fun k => ?_)
      (Ev.bind (f := fun k t => if t.2 = true then (hash_Root.f k (seg h a b)).bind fun u => some (t.1.toList == u.toList) else some false) hf (Ev.congr (fun k => if_pos rfl) (Ev.bind (f := fun _ u => some ((Hs.root (seg h a b)).toList == u.toList)) hr (Ev.congr (fun _ => by rw [beq_self_eq_true]) (Ev.now _)))))
    simp only [sawyerlaw17_TileCovers.l0]
    have q1 : ¬ ((j : Int) < ((c.length : Nat) : Int)) := by omega
    have q2 : (a' : Int) = (b : Int) := by omega
    have q3 : (0 : Int) ≤ (a : Int) := by omega
    have q4 : (a : Int) ≤ (b : Int) := by omega
    have q5 : (b : Int) ≤ (h.length : Int) := by omega
    rw [m29_len, if_neg q1]
    congr 1
    funext t
    rw [if_pos trivial, if_pos q2, if_pos q3, if_pos q4, if_pos q5, Int.toNat_natCast, Int.toNat_natCast]
    rfl
  | succ d ih =>
    intro j a' n' hj hn htj
    have hjl : j < c.length := by omega
    have hget := get29 c j hjl
    have hd : c.drop j = c.getD j (0, 0) :: c.drop (j + 1) := by
      rw [List.drop_eq_getElem_cons hjl, List.getD_eq_getElem?_getD, List.getElem?_eq_getElem hjl]
      rfl
    rw [hd] at htj
    generalize c.getD j (0, 0) = p at *
    obtain ⟨⟨t1, t2, t3⟩, t4⟩ := htj
    have hpp := Nat.two_pow_pos p.1
    have hf : p.1 ≤ 5 := by
      rcases Nat.lt_or_ge 5 p.1 with h2 | h2
      · exfalso
        have := Nat.pow_le_pow_right (n := 2) (by omega) (show 6 ≤ p.1 by omega)
        have : (2 : Nat) ^ 6 = 64 := rfl
        omega
      · exact h2
    have hr := ih (j + 1) (a' + 2 ^ p.1) (n' - 2 ^ p.1) (by omega) (by omega) t4
    have n0 : ((j : Int) < ((c.length : Nat) : Int)) := by omega
    have n1 : (0 : Int) ≤ (j : Int) := by omega
    have n2 : 0 ≤ (e29 p).f0 := by show (0 : Int) ≤ (p.1 : Int); omega
    have n3 : ¬ (e29 p).f0 < 0 := by show ¬ (p.1 : Int) < 0; omega
    have n4 : ¬ (e29 p).f0 > 6 := by show ¬ (p.1 : Int) > 6; omega
    have m1 := Lib.hid (wr64 ((j : Int) + 1) (by omega))
    have m2 := Lib.hid (wr64 ((a' : Int) + ((2 ^ p.1 : Nat) : Int)) (by omega))
    have s1 : shl .i64 (e29 p).f1 (e29 p).f0 = (a' : Int) := by
      show shl .i64 (p.2 : Int) (p.1 : Int) = (a' : Int)
      rw [shl_nn p.2 p.1 (by omega) (by rw [t3]; omega), t3]
    have s2 : shl .i64 1 (e29 p).f0 = ((2 ^ p.1 : Nat) : Int) := shl_one p.1 (by omega)
    refine Ev.step (fun k => ?_) hr
    simp only [sawyerlaw17_TileCovers.l0]
    rw [m29_len, if_pos n0, if_pos n1, hget, if_pos n2, s1, if_pos rfl, if_neg n3, if_neg n4, s2, m2.out, m1.out]
    rfl
theorem TileCovers (l : List (List Int)) (y1 : l.length * 24 ≤ 140737488351232) (y2 : ∀ r ∈ l, r.length ≤ 140737488351232) (hb : ∀ r ∈ l, ∀ x ∈ r, 0 ≤ x ∧ x < 256) (a : Int) (wa : (Lit.int .i64 a).wf = true) (m : Int) (wm : (Lit.int .i64 m).wf = true) :
    ∃ k, sawyerlaw17_TileCovers.f k l a m = some true := by
  refine Ev.rounds ?_
  obtain ⟨lo, hlo⟩ : ∃ n : Nat, a % 64 = (n : Int) := ⟨(a % 64).toNat, by omega⟩
  obtain ⟨n, hn⟩ : ∃ n : Nat, m % 64 = (n : Int) := ⟨(m % 64).toNat, by omega⟩
  have hlo64 : lo < 64 := by omega
  have hn64 : n < 64 := by omega
  have e1 : Go.bits .and .i64 a 63 = (lo : Int) := by rw [and63, hlo]
  have e2 : wrap64 ((lo : Int) + Go.bits .and .i64 m 63) = ((lo + n : Nat) : Int) := by
    rw [and63, hn, wr64 _ (by omega)]
    rfl
  have hlen := leaves_length l
  have hsm := leaves_smalls l
  have hL : (leavesOf l).length ≤ 60 := by omega
  have hcov := cover_ev (lo : Int) ((lo + n : Nat) : Int) (by omega) (by omega)
  unfold sawyerlaw17_TileCovers.f
  rw [e1, e2]
  refine Ev.bind awake_ev (Ev.bind (leaves_ev l y2 hb) (Ev.bind hcov ?_))
  clear e1 e2 hlo hn hcov
  generalize leavesOf l = h at *
  dsimp only
  by_cases hz : (covR (lo : Int) ((lo + n : Nat) : Int)).2 = 0
  · refine Ev.congr (fun k => if_pos hz) ?_
    by_cases hbig : ((lo + n : Nat) : Int) > (h.length : Int)
    · refine Ev.step (f := fun _ => some true) (fun k => ?_) (Ev.now _)
      simp only [sawyerlaw17_TileCovers.j0]
      rw [if_pos (decide_eq_true hbig), if_pos trivial, if_neg (by rw [hz]; decide), decide_eq_true hbig]
    · have hal : 0 < n ∧ al lo (lo + n) := by
        unfold covR at hz
        split at hz
        · rename_i hc
          refine ⟨by omega, ?_⟩
          have := hc.2.2.2
          unfold al
          rw [show (((lo + n : Nat) : Int) - (lo : Int)).toNat = n by omega, Int.toNat_natCast] at this
          rw [show lo + n - lo - 1 = n - 1 by omega]
          exact this
        · simp at hz
      have hC := C_al hal.2 (by omega) (by omega)
      have ht := C_tiles hal.2 (by omega) (by omega)
      have hcl := C_len lo (lo + n)
      have hr := loop_ev h hsm (by omega) lo (lo + n) (by omega) (by omega) (C lo (lo + n)) (by omega) ht (C lo (lo + n)).length 0 lo n (by omega) rfl (by rw [List.drop_zero]; rwa [show lo + n - lo = n by omega] at ht)
      refine Ev.step (fun k => ?_) hr
      simp only [sawyerlaw17_TileCovers.j0]
      rw [if_neg (by rw [decide_eq_false hbig]; decide)]
      rfl
  · refine Ev.congr (fun k => if_neg hz) (Ev.step (f := fun _ => some true) (fun k => ?_) (Ev.now _))
    have h8 : (covR (lo : Int) ((lo + n : Nat) : Int)).2 = 8 := by
      unfold covR at hz ⊢
      split
      · rename_i hc
        rw [if_pos hc] at hz
        exact absurd rfl hz
      · rfl
    simp only [sawyerlaw17_TileCovers.j0]
    rw [if_pos trivial, if_pos trivial, if_pos h8]
end Go.Proofs.YtopacnaiedlaaaaDoor.Pure
end
