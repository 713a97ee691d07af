-- JOINED BY A PROGRAM OF THIS PLACE (wip/tools/pack.py) out of: PureTileNews
import Derived.Test.YtopacnaiedlaaaaDoorL32
import Derived.Test.YtopacnaiedlaaaaDoorL34
section
/-
  The plain statement of TileNews: the nodes that leaves make whole, one by one, are each node, once.
-/
namespace Go.Proofs.YtopacnaiedlaaaaDoor.Pure
open Go.RowKit Go.Proofs.YtopacnaiedlaaaaDoor Go.Proofs.YtopacnaiedlaaaaDoor.F Go.Proofs.YtopacnaiedlaaaaDoorW.PrintWords Go.Proofs.YtopacnaiedlaaaaDoorW.PrintLast Go.Proofs.YtopacnaiedlaaaaDoorW.PrintMore
set_option linter.unusedVariables false
set_option linter.unusedSimpArgs false
theorem and127 (n : Int) : Go.bits .and .i64 n 127 = n % 128 := by
  have h127 : (BitVec.ofInt 64 127).toNat = 2 ^ 7 - 1 := by decide
  have key : (BitVec.ofInt 64 n &&& BitVec.ofInt 64 127).toNat = (n % ((2 ^ 64 : Nat) : Int)).toNat % 2 ^ 7 := by
    rw [BitVec.toNat_and, BitVec.toNat_ofInt, h127, Nat.and_two_pow_sub_one_eq_mod]
  show IntKind.i64.wrap ((BitVec.ofInt 64 n &&& BitVec.ofInt 64 127).toNat : Nat) = n % 128
  rw [key, IntKind.wrap_i64]
  omega
theorem shl_nat (x e : Nat) (he : e ≤ 64) (h : x * 2 ^ e ≤ 9223372036854775807) : shl .i64 (x : Int) (e : Int) = ((x * 2 ^ e : Nat) : Int) := by
  unfold shl
  rw [Int.toNat_natCast, show IntKind.i64.bits = 64 from rfl, Nat.min_eq_left he, show ((x : Int) * 2 ^ e) = ((x * 2 ^ e : Nat) : Int) by rw [Int.natCast_mul, Int.natCast_pow]; rfl]
  exact IntWalk.i64_in _ (by omega)
theorem on7 : ∀ i : Fin 128, ones 64 i.val ≤ 7 := by decide +kernel
theorem on_eq : ∀ i : Fin 128, ∀ k : Fin 8, k.val ≤ ones 64 i.val → (i.val / 2 ^ k.val + 1) * 2 ^ k.val = i.val + 1 := by decide +kernel
theorem on_ge : ∀ i : Fin 128, ∀ k : Fin 8, (i.val + 1) % 2 ^ k.val = 0 → k.val ≤ ones 64 i.val := by decide +kernel
theorem ones7 (i : Nat) (h : i < 128) : ones 64 i ≤ 7 := on7 ⟨i, h⟩
theorem ones_eq (i k : Nat) (h : i < 128) (hk : k ≤ ones 64 i) : (i / 2 ^ k + 1) * 2 ^ k = i + 1 := on_eq ⟨i, h⟩ ⟨k, by have := ones7 i h; omega⟩ hk
theorem ones_ge (i k : Nat) (h : i < 128) (hk : k < 8) (hd : (i + 1) % 2 ^ k = 0) : k ≤ ones 64 i := on_ge ⟨i, h⟩ ⟨k, hk⟩ hd
def hit (i j p : Nat) : Prop := (p % 128 + 1) * 2 ^ (p / 128) ≤ i ∨ ((p % 128 + 1) * 2 ^ (p / 128) = i + 1 ∧ p / 128 < j)
instance (i j p : Nat) : Decidable (hit i j p) := inferInstanceAs (Decidable (_ ∨ _))
/-- what is seen once the leaves below i are in, and of leaf i the levels below j -/
def T (i j : Nat) : List Int := (List.range 1024).map fun p => if hit i j p then 1 else 0
theorem T_len (i j : Nat) : (T i j).length = 1024 := by unfold T; rw [List.length_map, List.length_range]
theorem T_at (i j p : Nat) (h : p < 1024) : (T i j)[p]? = some (if hit i j p then 1 else 0) := by
  unfold T
  rw [List.getElem?_map, List.getElem?_range h]
  rfl
theorem T_rd (i j p : Nat) (h : p < 1024) : rd (T i j) (p : Int) = if hit i j p then 1 else 0 := by
  unfold rd
  rw [Int.toNat_natCast, List.getD_eq_getElem?_getD, T_at i j p h]
  rfl
theorem T_zero : T 0 0 = List.replicate 1024 0 := by
  apply List.ext_getElem?
  intro p
  rcases Nat.lt_or_ge p 1024 with h | h
  · rw [T_at 0 0 p h, List.getElem?_replicate, if_pos h, if_neg]
    have := Nat.two_pow_pos (p / 128)
    have hm : 1 ≤ (p % 128 + 1) * 2 ^ (p / 128) := Nat.mul_pos (by omega) this
    unfold hit
    omega
  · rw [List.getElem?_eq_none (by rw [T_len]; exact h), List.getElem?_eq_none (by rw [List.length_replicate]; exact h)]
theorem place (i j : Nat) (h : i < 128) : (j * 128 + i / 2 ^ j) / 128 = j ∧ (j * 128 + i / 2 ^ j) % 128 = i / 2 ^ j := by
  have hq : i / 2 ^ j < 128 := Nat.lt_of_le_of_lt (Nat.div_le_self i (2 ^ j)) h
  generalize i / 2 ^ j = q at *
  omega
theorem T_step (i j : Nat) (h : i < 128) (hj : j ≤ ones 64 i) : (T i j).set (j * 128 + i / 2 ^ j) 1 = T i (j + 1) := by
  have h7 := ones7 i h
  have he := ones_eq i j h hj
  have hp := place i j h
  have hle := Nat.div_le_self i (2 ^ j)
  apply List.ext_getElem?
  intro p
  rcases Nat.lt_or_ge p 1024 with hlt | hlt
  · rw [List.getElem?_set, T_at i j p hlt, T_at i (j + 1) p hlt, T_len]
    by_cases e : j * 128 + i / 2 ^ j = p
    · rw [if_pos e, if_pos (show j * 128 + i / 2 ^ j < 1024 by rw [e]; exact hlt), if_pos]
      subst e
      unfold hit
      rw [hp.1, hp.2]
      exact Or.inr ⟨he, by omega⟩
    · rw [if_neg e]
      congr 1
      have : hit i j p ↔ hit i (j + 1) p := by
        unfold hit
        constructor
        · rintro (h1 | ⟨h1, h2⟩)
          · exact Or.inl h1
          · exact Or.inr ⟨h1, by omega⟩
        · rintro (h1 | ⟨h1, h2⟩)
          · exact Or.inl h1
          · refine Or.inr ⟨h1, ?_⟩
            rcases Nat.lt_or_ge (p / 128) j with h3 | h3
            · exact h3
            · exfalso
              have h4 : p / 128 = j := by omega
              rw [h4, ← he] at h1
              have h5 := Nat.eq_of_mul_eq_mul_right (Nat.two_pow_pos j) h1
              omega
      by_cases hh : hit i j p
      · rw [if_pos hh, if_pos (this.1 hh)]
      · rw [if_neg hh, if_neg (fun x => hh (this.2 x))]
  · rw [List.getElem?_eq_none (by rw [List.length_set, T_len]; exact hlt), List.getElem?_eq_none (by rw [T_len]; exact hlt)]
theorem T_next (i : Nat) (h : i < 128) : T i (ones 64 i + 1) = T (i + 1) 0 := by
  apply List.ext_getElem?
  intro p
  rcases Nat.lt_or_ge p 1024 with hlt | hlt
  · rw [T_at _ _ p hlt, T_at _ _ p hlt]
    congr 1
    have : hit i (ones 64 i + 1) p ↔ hit (i + 1) 0 p := by
      unfold hit
      constructor
      · rintro (h1 | ⟨h1, h2⟩)
        · exact Or.inl (by omega)
        · exact Or.inl (by omega)
      · rintro (h1 | ⟨h1, h2⟩)
        · rcases Nat.lt_or_ge i ((p % 128 + 1) * 2 ^ (p / 128)) with h3 | h3
          · have h4 : (p % 128 + 1) * 2 ^ (p / 128) = i + 1 := by omega
            refine Or.inr ⟨h4, ?_⟩
            have := ones_ge i (p / 128) h (by omega) (by rw [← h4]; exact Nat.mul_mod_left _ _)
            omega
          · exact Or.inl h3
        · omega
    by_cases hh : hit i (ones 64 i + 1) p
    · rw [if_pos hh, if_pos (this.1 hh)]
    · rw [if_neg hh, if_neg (fun x => hh (this.2 x))]
  · rw [List.getElem?_eq_none (by rw [T_len]; exact hlt), List.getElem?_eq_none (by rw [T_len]; exact hlt)]
theorem l3_ev (n lev : Nat) (hlev : lev < 8) (hn : n < 128) (hnext : Ev (fun k => sawyerlaw17_TileNews.l2 k true (n : Int) (T n 0) ((lev + 1 : Nat) : Int)) true) (d : Nat) : ∀ i, i + d = 128 → Ev (fun k => sawyerlaw17_TileNews.l3 k true (n : Int) (T n 0) (lev : Int) (i : Int)) true := by
  induction d with
  | zero =>
    intro i hi
    refine Ev.step (fun k => ?_) hnext
    simp only [sawyerlaw17_TileNews.l3]
    rw [if_neg (by omega), wr64 _ (by omega)]
    rfl
  | succ d ih =>
    intro i hi
    have hp := Nat.two_pow_pos lev
    have hp7 : 2 ^ lev ≤ 2 ^ 7 := Nat.pow_le_pow_right (n := 2) (by omega) (by omega)
    have hmul : (i + 1) * 2 ^ lev ≤ 128 * 2 ^ 7 := Nat.mul_le_mul (by omega) hp7
    have h16 : 128 * 2 ^ 7 = 16384 := by decide
    refine Ev.step (fun k => ?_) (ih (i + 1) (by omega))
    simp only [sawyerlaw17_TileNews.l3]
    have hs : shl .i64 (wrap64 ((i : Int) + 1)) (lev : Int) = (((i + 1) * 2 ^ lev : Nat) : Int) := by
      rw [wr64 _ (by omega), show ((i : Int) + 1) = ((i + 1 : Nat) : Int) by omega]
      exact shl_nat (i + 1) lev (by omega) (by omega)
    have hix : wrap64 ((wrap64 ((lev : Int) * 128)) + (i : Int)) = ((lev * 128 + i : Nat) : Int) := by
      rw [wr64 ((lev : Int) * 128) (by omega), wr64 _ (by omega)]
      omega
    have hpl : (lev * 128 + i) / 128 = lev ∧ (lev * 128 + i) % 128 = i := by omega
    have hh : hit n 0 (lev * 128 + i) ↔ (i + 1) * 2 ^ lev ≤ n := by
      unfold hit
      rw [hpl.1, hpl.2]
      omega
    rw [if_pos (by omega), if_pos (by omega), hs, hix]
    by_cases hle : (i + 1) * 2 ^ lev ≤ n
    · rw [if_pos (by omega), if_pos (by omega), T_len, if_pos (by omega), T_rd n 0 _ (by omega), if_pos (hh.2 hle), if_pos rfl, wr64 _ (by omega)]
      rfl
    · rw [if_neg (by omega), if_pos (by omega), T_len, if_pos (by omega), T_rd n 0 _ (by omega), if_neg (fun x => hle (hh.1 x)), if_pos rfl, wr64 _ (by omega)]
      rfl
theorem l2_ev (n : Nat) (hn : n < 128) (d : Nat) : ∀ lev, lev + d = 8 → Ev (fun k => sawyerlaw17_TileNews.l2 k true (n : Int) (T n 0) (lev : Int)) true := by
  induction d with
  | zero =>
    intro lev hl
    refine Ev.step (f := fun _ => some _) (fun k => ?_) (Ev.now _)
    simp only [sawyerlaw17_TileNews.l2]
    rw [if_neg (by omega)]
  | succ d ih =>
    intro lev hl
    refine Ev.step (fun k => ?_) (l3_ev n lev (by omega) hn (ih (lev + 1) (by omega)) 128 0 (by omega))
    simp only [sawyerlaw17_TileNews.l2]
    rw [if_pos (by omega)]
    rfl
theorem l1_ev (n i : Nat) (hi : i < n) (hn : n < 128) (hnext : Ev (fun k => sawyerlaw17_TileNews.l0 k true (n : Int) (T (i + 1) 0) ((i + 1 : Nat) : Int)) true) (d : Nat) : ∀ j, j + d = ones 64 i + 1 → Ev (fun k => sawyerlaw17_TileNews.l1 k true (n : Int) (T i j) (i : Int) (m29 (news i)) (j : Int)) true := by
  have h7 := ones7 i (by omega)
  have hlen : (news i).length = ones 64 i + 1 := by unfold news; rw [List.length_map, List.length_range]
  induction d with
  | zero =>
    intro j hj
    refine Ev.step (fun k => ?_) hnext
    simp only [sawyerlaw17_TileNews.l1]
    rw [m29_len, hlen, if_neg (by omega), wr64 _ (by omega), show j = ones 64 i + 1 by omega, T_next i (by omega)]
    rfl
  | succ d ih =>
    intro j hj
    have he := ones_eq i j (by omega) (by omega)
    have hle := Nat.div_le_self i (2 ^ j)
    have hpl := place i j (by omega)
    have hget : rd_T29 (m29 (news i)) (j : Int) = e29 (j, i / 2 ^ j) := by
      rw [get29 _ j (by omega)]
      unfold news
      rw [List.getD_eq_getElem?_getD, List.getElem?_map, List.getElem?_range (by omega)]
      rfl
    have p0 : (e29 (j, i / 2 ^ j)).f0 = (j : Int) := rfl
    have p1 : (e29 (j, i / 2 ^ j)).f1 = ((i / 2 ^ j : Nat) : Int) := rfl
    have n0 : ((j : Int) < ((ones 64 i + 1 : Nat) : Int)) := by omega
    have n1 : (0 : Int) ≤ (j : Int) := by omega
    have n2 : ¬ (e29 (j, i / 2 ^ j)).f0 > 7 := by show ¬ (j : Int) > 7; omega
    have n3 : ¬ (e29 (j, i / 2 ^ j)).f1 < 0 := by show ¬ ((i / 2 ^ j : Nat) : Int) < 0; omega
    have n4 : ¬ (e29 (j, i / 2 ^ j)).f1 > 127 := by show ¬ ((i / 2 ^ j : Nat) : Int) > 127; omega
    have n5 : 0 ≤ (e29 (j, i / 2 ^ j)).f0 := n1
    have n7 : ((i + 1 : Nat) : Int) = (i : Int) + 1 := by omega
    have n8 : (0 : Int) ≤ ((j * 128 + i / 2 ^ j : Nat) : Int) := by omega
    have n9 : ((j * 128 + i / 2 ^ j : Nat) : Int) < ((1024 : Nat) : Int) := by omega
    have m1 := Lib.hid (T_rd i j (j * 128 + i / 2 ^ j) (by omega))
    have n6 := Lib.hid (wr64 ((i : Int) + 1) (by omega))
    have n10 := Lib.hid (wr64 ((j : Int) + 1) (by omega))
    have hs : shl .i64 (wrap64 ((e29 (j, i / 2 ^ j)).f1 + 1)) ((e29 (j, i / 2 ^ j)).f0) = ((i + 1 : Nat) : Int) := by
      have q1 : wrap64 (((i / 2 ^ j : Nat) : Int) + 1) = ((i / 2 ^ j + 1 : Nat) : Int) := by rw [wr64 _ (by omega)]; omega
      clear n0 n1 n2 n3 n4 n5 n7 n8 n9
      show shl .i64 (wrap64 (((i / 2 ^ j : Nat) : Int) + 1)) (j : Int) = _
      rw [q1, shl_nat _ j (by omega) (by rw [he]; omega), he]
    have HS := Lib.hid hs
    clear hs
    have hix : wrap64 ((wrap64 ((e29 (j, i / 2 ^ j)).f0 * 128)) + (e29 (j, i / 2 ^ j)).f1) = ((j * 128 + i / 2 ^ j : Nat) : Int) := by
      have q0 : (j : Int) * 128 + ((i / 2 ^ j : Nat) : Int) = ((j * 128 + i / 2 ^ j : Nat) : Int) := by omega
      have q1 := Lib.hid (wr64 ((j : Int) * 128) (by omega))
      have q2 := Lib.hid (wr64 ((j : Int) * 128 + ((i / 2 ^ j : Nat) : Int)) (by omega))
      show wrap64 ((wrap64 ((j : Int) * 128)) + ((i / 2 ^ j : Nat) : Int)) = _
      rw [q1.out, q2.out, q0]
    have HIX := Lib.hid hix
    clear hix
    have hnot : ¬ hit i j (j * 128 + i / 2 ^ j) := by
      unfold hit
      rw [hpl.1, hpl.2, he]
      omega
    have hr := ih (j + 1) (by omega)
    rw [← T_step i j (by omega) (by omega)] at hr
    refine Ev.step (fun k => ?_) hr
    simp only [sawyerlaw17_TileNews.l1]
    rw [m29_len, hlen, if_pos n0, if_pos n1, hget, if_pos p0, if_neg n2, if_neg n3, if_neg n4, if_pos n5, HS.out, n6.out, if_pos n7, HIX.out, if_pos n8, T_len, if_pos n9, Int.toNat_natCast, m1.out, if_neg hnot, n10.out, wr64 ((0 : Int) + 1) (by decide), show ((0 : Int) + 1) = 1 from rfl, show ((j : Int) + 1) = ((j + 1 : Nat) : Int) from rfl]
theorem l0_ev (n : Nat) (hn : n < 128) (d : Nat) : ∀ i, i + d = n → Ev (fun k => sawyerlaw17_TileNews.l0 k true (n : Int) (T i 0) (i : Int)) true := by
  induction d with
  | zero =>
    intro i hi
    obtain rfl : i = n := by omega
    refine Ev.step (fun k => ?_) (l2_ev i hn 8 0 (by omega))
    simp only [sawyerlaw17_TileNews.l0]
    rw [if_neg (by omega)]
    rfl
  | succ d ih =>
    intro i hi
    have hnew := new_ev (i : Int) (by omega)
    rw [show newR (i : Int) = (news i, 0) by unfold newR; rw [if_pos ⟨by omega, by omega⟩, Int.toNat_natCast]] at hnew
    refine Ev.step (f := fun k => (tile_New.f k (i : Int)).bind fun t => if t.2 = 0 then sawyerlaw17_TileNews.l1 k true (n : Int) (T i 0) (i : Int) t.1 0 else some false) (fun k => ?_) (Ev.bind (f := fun k t => if t.2 = 0 then sawyerlaw17_TileNews.l1 k true (n : Int) (T i 0) (i : Int) t.1 0 else some false) hnew (Ev.congr (fun k => if_pos rfl) (l1_ev n i (by omega) hn (ih (i + 1) (by omega)) (ones 64 i + 1) 0 (by omega))))
    simp only [sawyerlaw17_TileNews.l0]
    rw [if_pos (by omega)]
theorem TileNews (a : Int) (wa : (Lit.int .i64 a).wf = true) : ∃ k, sawyerlaw17_TileNews.f k a = some true := by
  refine Ev.rounds ?_
  obtain ⟨n, hn⟩ : ∃ n : Nat, a % 128 = (n : Int) := ⟨(a % 128).toNat, by omega⟩
  have h := l0_ev n (by omega) n 0 (by omega)
  rw [T_zero] at h
  unfold sawyerlaw17_TileNews.f
  refine Ev.bind awake_ev (Ev.congr (fun k => ?_) h)
  rw [if_pos (by decide), and127, hn]
  rfl
end Go.Proofs.YtopacnaiedlaaaaDoor.Pure
end
