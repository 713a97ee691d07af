-- JOINED BY A PROGRAM OF THIS PLACE (wip/tools/pack.py) out of: Ref15Chk
import Derived.Test.YtkbbdbnjplcjdaaK17
import Derived.Test.YtkbbdbnjplcjdaaK21
section
/-
  sawyerref15.CheckProof: what it answers is what the plain text Hs.checkProof does, where no text is too long.
-/
namespace Go.Proofs.Ytkbbdbnjplcjdaa
open Go.RowKit Go.Proofs.YtkbbdbnjplcjdaaW.PrintWords Go.Proofs.YtkbbdbnjplcjdaaW.PrintLast Go.Proofs.YtkbbdbnjplcjdaaW.PrintMore
set_option linter.unusedVariables false
set_option linter.unusedSimpArgs false
def smallB (l : List ByteArray) : Bool := l.all fun s => decide (s.size ≤ 1099511627776)
def sawyerref15_CheckProof.f (a0 a1 : Int) (l2 : List ByteArray) (a3 a4 : ByteArray) : Option Int := if smallB (a3 :: l2) = true ∧ l2.length ≤ 4611686018427387903 then some (Hs.checkProof a0 a1 l2 a3 a4) else none
theorem smallB_all (l : List ByteArray) (h : smallB l = true) : ∀ x ∈ l, small x := by
  intro x hx
  unfold smallB at h
  rw [List.all_eq_true] at h
  simpa [small] using h x hx
theorem tkst_start (w : World) (A : Option Addr) (c : Nat) (p : List ByteArray) (hr : Kd.C Kd.string w A p.length p) (hc : p.length ≤ c) :
    TkSt w w.heap.size (w.alloc (.cells #[.slice A p.length c, .bool false] 64)) A c p false :=
  ⟨(Below.refl _ _).alloc (Nat.le_refl _) _, Nat.le_refl _, heap_alloc_last w _, hr, hc⟩
set_option maxHeartbeats 4000000 in
set_option maxRecDepth 100000 in
theorem refchk_main (m n : Nat) (A : Option Addr) (c : Nat) (p : List ByteArray) (old root : ByteArray) (w : World) (hr : Kd.C Kd.string w A p.length p) (hc : p.length ≤ c)
    (h1 : 1 ≤ m) (h2 : m ≤ n) (h3 : n ≤ 1099511627776) (hs : ∀ x ∈ p, small x) (ho : small old) (hpl : p.length ≤ 4611686018427387903) (r : Int)
    (hfin : r = if (wholeB p && wholeB [old, root]) = false then 9 else if (Hs.walk old m n true p).2.2.2 = true ∨ (Hs.walk old m n true p).2.2.1 ≠ [] ∨ (Hs.walk old m n true p).1 ≠ old ∨ (Hs.walk old m n true p).2.1 ≠ root then 9 else 0) :
    Calls Try.prog 28 #[.int .i64 m, .int .i64 n, .slice A p.length c, .string old, .string root] w fun e w' => e = .returned (.int .i64 r) ∧ Below w.heap.size w w' := by
  have HR := Lib.hid hr
  have HC := Lib.hid hc
  have HP := Lib.hid hs
  have HO := Lib.hid ho
  have HF := Lib.hid hfin
  have HL := Lib.hid hpl
  clear hr hc hs ho hfin hpl
  have f1 : ¬ (m : Int) < 1 := by omega
  have f2 : ¬ (m : Int) > (n : Int) := by omega
  have f3 : ¬ (n : Int) > 1099511627776 := by omega
  go_enter Try.func28, Try.ntmps28
  go_wp2_with fail
  have HST := Lib.hid (tkst_start w A c p HR.out HC.out)
  refine (tkwalk_calls w w.heap.size old HO.out n m true p false _ A c h1 h2 h3 HP.out HST.out).mono ?_
  rintro e w4 ⟨A4, c4, rfl, hs4⟩
  obtain ⟨q, hq⟩ : ∃ q, q = Hs.walk old m n true p := ⟨_, rfl⟩
  have hf := HF.out
  rw [← hq] at hs4 hf ⊢
  have HQ := Lib.hid hq
  have HS4 := Lib.hid hs4
  clear hq hs4 HST HF
  obtain ⟨qa, qb, ql, qx⟩ := q
  have kB := two_cell1 HS4.out.ct
  have kP := two_cell0 HS4.out.ct
  simp only [Bool.false_or] at kB kP
  dsimp only at hf kB kP ⊢
  cases qx with
  | true =>
    have HV := Lib.hid (show r = 9 by rw [hf]; simp)
    clear hf
    go_wp2
    go_ret
    exact ⟨by rw [HV.out]; rfl, HS4.out.hb⟩
  | false =>
    cases ql with
    | cons s t =>
      have HV := Lib.hid (show r = 9 by rw [hf]; simp)
      clear hf
      have hpos : (0 : Int) < ((s :: t).length : Int) := by simp
      generalize hL : (s :: t).length = L at *
      have HL2 := Lib.hid hL
      clear hL
      go_wp2
      go_ret
      exact ⟨by rw [HV.out]; rfl, HS4.out.hb⟩
    | nil =>
      simp only [List.length_nil] at kP
      cases hw1 : wholeB p with
      | false =>
        have HV := Lib.hid (show r = 9 by rw [hf, hw1]; simp)
        clear hf
        obtain ⟨k1, hk1⟩ := (F.rwhole_some p (by have := HL.out; omega)).rounds
        rw [hw1] at hk1
        have HK1 := Lib.hid hk1
        clear hk1 hw1
        go_wp2_with fail
        refine (F.sawyerref15_whole.calls k1 A c p false _ (Kd.C_below HR.out HS4.out.hb) HC.out HK1.out).mono ?_
        rintro e w5 ⟨rfl, hd5⟩
        have HS5 := Lib.hid (HS4.out.later hd5.below)
        clear hd5
        go_wp2
        go_ret
        exact ⟨by rw [HV.out]; rfl, HS5.out.hb⟩
      | true =>
        cases hw2 : wholeB [old, root] with
        | false =>
          have HV := Lib.hid (show r = 9 by rw [hf, hw1, hw2]; simp)
          clear hf
          obtain ⟨k1, hk1⟩ := (F.rwhole_some p (by have := HL.out; omega)).rounds
          rw [hw1] at hk1
          have HK1 := Lib.hid hk1
          clear hk1 hw1
          go_wp2_with fail
          refine (F.sawyerref15_whole.calls k1 A c p true _ (Kd.C_below HR.out HS4.out.hb) HC.out HK1.out).mono ?_
          rintro e w5 ⟨rfl, hd5⟩
          have HS5 := Lib.hid (HS4.out.later hd5.below)
          clear hd5
          obtain ⟨k2, hk2⟩ := (F.rwhole_some [old, root] (by simp)).rounds
          rw [hw2] at hk2
          have HK2 := Lib.hid hk2
          clear hk2 hw2
          go_wp2_with (first | ((with_reducible refine gate_dst (N := 56) rfl ?_); (try (refine gate_guard (by rfl) ?_; dsimp only)); refine Kd.R_lit Kd.string _ 9 ?hg (N := 56) ?hd (xs := ([old, root] : List ByteArray)) (inner := [.string old, .string root]) (ok := fun _ => True) (okp := fun _ => True) ?hr ?hp (fun _ hk => hk) trivial (Below.refl _ _) (Nat.le_refl _) (by simp) ?_; (case hd => rfl); (case hg => rfl); (case hr => first | (go_simp; done) | (go_simp; rfl)); (case hp => exact (Reps.one (show Kd.M Kd.string _ _ _ old [.string old] from rfl) (Reps.one (show Kd.M Kd.string _ _ _ root [.string root] from rfl) (Reps.none _ _)))); intro v6 w6 ho6 hb6 hg_ hnew_; clear hg_ hnew_; obtain ⟨A6, c6, rfl⟩ := Kd.R_slice ho6; have HO6 := Lib.hid ho6; have HB6 := Lib.hid hb6; clear ho6 hb6) | fail)
          refine (F.sawyerref15_whole.calls k2 A6 c6 [old, root] false _ (Kd.R_reads' HO6.out).2.2 (Kd.R_reads' HO6.out).2.1 HK2.out).mono ?_
          rintro e w7 ⟨rfl, hd7⟩
          have HS7 := Lib.hid ((HS5.out.later HB6.out).later hd7.below)
          clear hd7
          go_wp2
          go_ret
          exact ⟨by rw [HV.out]; rfl, HS7.out.hb⟩
        | true =>
          rw [hw1, hw2] at hf
          simp only [Bool.and_self, Bool.true_eq_false, if_false, Bool.false_eq_true, ne_eq, not_true_eq_false, false_or] at hf
          by_cases ha : qa = old
          · subst ha
            by_cases hb : qb = root
            · subst hb
              have HV := Lib.hid (show r = 0 by rw [hf, if_neg (by simp)])
              clear hf
              obtain ⟨k1, hk1⟩ := (F.rwhole_some p (by have := HL.out; omega)).rounds
              rw [hw1] at hk1
              have HK1 := Lib.hid hk1
              clear hk1 hw1
              go_wp2_with fail
              refine (F.sawyerref15_whole.calls k1 A c p true _ (Kd.C_below HR.out HS4.out.hb) HC.out HK1.out).mono ?_
              rintro e w5 ⟨rfl, hd5⟩
              have HS5 := Lib.hid (HS4.out.later hd5.below)
              clear hd5
              obtain ⟨k2, hk2⟩ := (F.rwhole_some [qa, qb] (by simp)).rounds
              rw [hw2] at hk2
              have HK2 := Lib.hid hk2
              clear hk2 hw2
              go_wp2_with (first | ((with_reducible refine gate_dst (N := 56) rfl ?_); (try (refine gate_guard (by rfl) ?_; dsimp only)); refine Kd.R_lit Kd.string _ 9 ?hg (N := 56) ?hd (xs := ([qa, qb] : List ByteArray)) (inner := [.string qa, .string qb]) (ok := fun _ => True) (okp := fun _ => True) ?hr ?hp (fun _ hk => hk) trivial (Below.refl _ _) (Nat.le_refl _) (by simp) ?_; (case hd => rfl); (case hg => rfl); (case hr => first | (go_simp; done) | (go_simp; rfl)); (case hp => exact (Reps.one (show Kd.M Kd.string _ _ _ qa [.string qa] from rfl) (Reps.one (show Kd.M Kd.string _ _ _ qb [.string qb] from rfl) (Reps.none _ _)))); intro v6 w6 ho6 hb6 hg_ hnew_; clear hg_ hnew_; obtain ⟨A6, c6, rfl⟩ := Kd.R_slice ho6; have HO6 := Lib.hid ho6; have HB6 := Lib.hid hb6; clear ho6 hb6) | fail)
              refine (F.sawyerref15_whole.calls k2 A6 c6 [qa, qb] true _ (Kd.R_reads' HO6.out).2.2 (Kd.R_reads' HO6.out).2.1 HK2.out).mono ?_
              rintro e w7 ⟨rfl, hd7⟩
              have HS7 := Lib.hid ((HS5.out.later HB6.out).later hd7.below)
              clear hd7
              have e1 : (qa.toList != qa.toList) = false := by simp
              have e2 : (qb.toList != qb.toList) = false := by simp
              go_wp2
              go_ret
              exact ⟨by rw [HV.out]; rfl, HS7.out.hb⟩
            · have HV := Lib.hid (show r = 9 by rw [hf, if_pos (.inr hb)])
              clear hf
              have HBN := Lib.hid hb
              clear hb
              obtain ⟨k1, hk1⟩ := (F.rwhole_some p (by have := HL.out; omega)).rounds
              rw [hw1] at hk1
              have HK1 := Lib.hid hk1
              clear hk1 hw1
              go_wp2_with fail
              refine (F.sawyerref15_whole.calls k1 A c p true _ (Kd.C_below HR.out HS4.out.hb) HC.out HK1.out).mono ?_
              rintro e w5 ⟨rfl, hd5⟩
              have HS5 := Lib.hid (HS4.out.later hd5.below)
              clear hd5
              obtain ⟨k2, hk2⟩ := (F.rwhole_some [qa, root] (by simp)).rounds
              rw [hw2] at hk2
              have HK2 := Lib.hid hk2
              clear hk2 hw2
              go_wp2_with (first | ((with_reducible refine gate_dst (N := 56) rfl ?_); (try (refine gate_guard (by rfl) ?_; dsimp only)); refine Kd.R_lit Kd.string _ 9 ?hg (N := 56) ?hd (xs := ([qa, root] : List ByteArray)) (inner := [.string qa, .string root]) (ok := fun _ => True) (okp := fun _ => True) ?hr ?hp (fun _ hk => hk) trivial (Below.refl _ _) (Nat.le_refl _) (by simp) ?_; (case hd => rfl); (case hg => rfl); (case hr => first | (go_simp; done) | (go_simp; rfl)); (case hp => exact (Reps.one (show Kd.M Kd.string _ _ _ qa [.string qa] from rfl) (Reps.one (show Kd.M Kd.string _ _ _ root [.string root] from rfl) (Reps.none _ _)))); intro v6 w6 ho6 hb6 hg_ hnew_; clear hg_ hnew_; obtain ⟨A6, c6, rfl⟩ := Kd.R_slice ho6; have HO6 := Lib.hid ho6; have HB6 := Lib.hid hb6; clear ho6 hb6) | fail)
              refine (F.sawyerref15_whole.calls k2 A6 c6 [qa, root] true _ (Kd.R_reads' HO6.out).2.2 (Kd.R_reads' HO6.out).2.1 HK2.out).mono ?_
              rintro e w7 ⟨rfl, hd7⟩
              have HS7 := Lib.hid ((HS5.out.later HB6.out).later hd7.below)
              clear hd7
              have e1 : (qa.toList != qa.toList) = false := by simp
              have e2 : (qb.toList != root.toList) = true := bne_iff_ne.2 (fun e => HBN.out (toList_inj e))
              have e3 : (qb.toList == root.toList) = false := beq_eq_false_iff_ne.2 (fun e => HBN.out (toList_inj e))
              go_wp2
              go_ret
              exact ⟨by rw [HV.out]; rfl, HS7.out.hb⟩
          · have HV := Lib.hid (show r = 9 by rw [hf, if_pos (.inl ha)])
            clear hf
            have HAN := Lib.hid ha
            clear ha
            obtain ⟨k1, hk1⟩ := (F.rwhole_some p (by have := HL.out; omega)).rounds
            rw [hw1] at hk1
            have HK1 := Lib.hid hk1
            clear hk1 hw1
            go_wp2_with fail
            refine (F.sawyerref15_whole.calls k1 A c p true _ (Kd.C_below HR.out HS4.out.hb) HC.out HK1.out).mono ?_
            rintro e w5 ⟨rfl, hd5⟩
            have HS5 := Lib.hid (HS4.out.later hd5.below)
            clear hd5
            obtain ⟨k2, hk2⟩ := (F.rwhole_some [old, root] (by simp)).rounds
            rw [hw2] at hk2
            have HK2 := Lib.hid hk2
            clear hk2 hw2
            go_wp2_with (first | ((with_reducible refine gate_dst (N := 56) rfl ?_); (try (refine gate_guard (by rfl) ?_; dsimp only)); refine Kd.R_lit Kd.string _ 9 ?hg (N := 56) ?hd (xs := ([old, root] : List ByteArray)) (inner := [.string old, .string root]) (ok := fun _ => True) (okp := fun _ => True) ?hr ?hp (fun _ hk => hk) trivial (Below.refl _ _) (Nat.le_refl _) (by simp) ?_; (case hd => rfl); (case hg => rfl); (case hr => first | (go_simp; done) | (go_simp; rfl)); (case hp => exact (Reps.one (show Kd.M Kd.string _ _ _ old [.string old] from rfl) (Reps.one (show Kd.M Kd.string _ _ _ root [.string root] from rfl) (Reps.none _ _)))); intro v6 w6 ho6 hb6 hg_ hnew_; clear hg_ hnew_; obtain ⟨A6, c6, rfl⟩ := Kd.R_slice ho6; have HO6 := Lib.hid ho6; have HB6 := Lib.hid hb6; clear ho6 hb6) | fail)
            refine (F.sawyerref15_whole.calls k2 A6 c6 [old, root] true _ (Kd.R_reads' HO6.out).2.2 (Kd.R_reads' HO6.out).2.1 HK2.out).mono ?_
            rintro e w7 ⟨rfl, hd7⟩
            have HS7 := Lib.hid ((HS5.out.later HB6.out).later hd7.below)
            clear hd7
            have e1 : (qa.toList != old.toList) = true := bne_iff_ne.2 (fun e => HAN.out (toList_inj e))
            have e3 : (qa.toList == old.toList) = false := beq_eq_false_iff_ne.2 (fun e => HAN.out (toList_inj e))
            go_wp2
            go_ret
            exact ⟨by rw [HV.out]; rfl, HS7.out.hb⟩
set_option maxHeartbeats 4000000 in
set_option maxRecDepth 100000 in
theorem sawyerref15_CheckProof.calls (a0 a1 : Int) (A2 : Option Addr) (c2 : Nat) (l2 : List ByteArray) (a3 a4 : ByteArray) (r : Int) (w : World) (hr2 : Kd.C Kd.string w A2 l2.length l2) (hc2 : l2.length ≤ c2) (h : sawyerref15_CheckProof.f a0 a1 l2 a3 a4 = some r) :
    Calls Try.prog 28 #[.int .i64 a0, .int .i64 a1, .slice A2 l2.length c2, .string a3, .string a4] w fun e w' => e = .returned (.int .i64 r) ∧ Below w.heap.size w w' := by
  unfold sawyerref15_CheckProof.f at h
  split at h
  case isFalse => cases h
  rename_i hsm2
  obtain ⟨hsm, hln⟩ := hsm2
  obtain rfl := Option.some.inj h
  clear h
  have hall := smallB_all _ hsm
  by_cases h1 : a0 < 1
  · have HV := Lib.hid (checkProof_range a0 a1 l2 a3 a4 (.inl h1))
    clear hall hsm hln
    go_enter Try.func28, Try.ntmps28
    go_wp2
    go_ret
    exact ⟨by rw [HV.out]; rfl, Below.refl _ _⟩
  by_cases h2 : a0 > a1
  · have HV := Lib.hid (checkProof_range a0 a1 l2 a3 a4 (.inr (.inl h2)))
    clear hall hsm hln
    go_enter Try.func28, Try.ntmps28
    go_wp2
    go_ret
    exact ⟨by rw [HV.out]; rfl, Below.refl _ _⟩
  by_cases h3 : a1 > 1099511627776
  · have HV := Lib.hid (checkProof_range a0 a1 l2 a3 a4 (.inr (.inr h3)))
    clear hall hsm hln
    go_enter Try.func28, Try.ntmps28
    go_wp2
    go_ret
    exact ⟨by rw [HV.out]; rfl, Below.refl _ _⟩
  have hnr : ¬ (a0 < 1 ∨ a0 > a1 ∨ a1 > 1099511627776) := fun h => h.elim h1 (fun h => h.elim h2 h3)
  obtain ⟨m, rfl⟩ := Int.eq_ofNat_of_zero_le (show 0 ≤ a0 by omega)
  obtain ⟨n, rfl⟩ := Int.eq_ofNat_of_zero_le (show 0 ≤ a1 by omega)
  refine refchk_main m n A2 c2 l2 a3 a4 w hr2 hc2 (by omega) (by omega) (by omega) (fun x hx => hall x (by simp [hx])) (hall a3 (by simp)) hln _ ?_
  unfold Hs.checkProof
  rw [if_neg hnr, wholeL_eq, wholeL_eq]
  rfl
end Go.Proofs.Ytkbbdbnjplcjdaa
end
