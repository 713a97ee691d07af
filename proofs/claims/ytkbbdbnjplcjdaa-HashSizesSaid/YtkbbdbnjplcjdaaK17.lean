-- JOINED BY A PROGRAM OF THIS PLACE (wip/tools/pack.py) out of: ChkProof HsProg
import Derived.Laws.EntriesVeiled
import Derived.Test.YtkbbdbnjplcjdaaK3
import Derived.Test.YtkbbdbnjplcjdaaK5
import Derived.Test.YtkbbdbnjplcjdaaK7
import Derived.Test.YtkbbdbnjplcjdaaK14
import Derived.Test.YtkbbdbnjplcjdaaK15
import Derived.Test.YtkbbdbnjplcjdaaK16
section
/-
  hash.CheckProof: what it answers is what the plain text Hs.checkProof does.
-/
namespace Go.Proofs.Ytkbbdbnjplcjdaa
open Go.RowKit Go.Proofs.YtkbbdbnjplcjdaaW.PrintWords Go.Proofs.YtkbbdbnjplcjdaaW.PrintLast Go.Proofs.YtkbbdbnjplcjdaaW.PrintMore
set_option linter.unusedVariables false
set_option linter.unusedSimpArgs false
def hash_CheckProof.f (a0 a1 : Int) (l2 : List ByteArray) (a3 a4 : ByteArray) : Option Int := some (Hs.checkProof a0 a1 l2 a3 a4)
theorem wholeB_small (l : List ByteArray) (h : wholeB l = true) : ∀ x ∈ l, small x := by
  intro x hx
  unfold wholeB at h
  rw [List.all_eq_true] at h
  have := h x hx
  unfold small
  have e : x.size = 32 := by simpa using this
  omega
theorem toList_inj {a b : ByteArray} (h : a.toList = b.toList) : a = b := by
  rw [ByteArray.toList_eq, ByteArray.toList_eq] at h
  cases a
  cases b
  congr 1
  exact Array.toList_inj.1 h
def cpX (w w3 : World) : CPBox := ⟨w.heap.size, w.heap.size + 1, w3.heap.size, w3.heap.size + 1, w3.heap.size + 1 + 1⟩
theorem cpst_start (w w3 : World) (A : Option Addr) (c : Nat) (p : List ByteArray) (old : ByteArray) (hr : Kd.C Kd.string w A p.length p) (hc : p.length ≤ c) (cP : w3.heap[w.heap.size]? = some (.cells #[.slice A p.length c] 22 (0, 0)))
    (cO : w3.heap[w.heap.size + 1]? = some (.cells #[.string old] 9 (0, 0))) (hb : Below w.heap.size w w3) (hs : w.heap.size + 2 ≤ w3.heap.size) :
    CPSt w (cpX w w3) old (((w3.alloc (Obj.cells #[Value.bool false] 4)).alloc (Obj.cells #[Value.func (Fn.func 46) #[] #[Value.pointer (some { block := w.heap.size, off := 0 }), Value.pointer (some { block := w3.heap.size, off := 0 })]] 59)).alloc
      (Obj.cells #[Value.func (Fn.func 47) #[] #[Value.pointer (some { block := w.heap.size + 1, off := 0 }), Value.pointer (some { block := w3.heap.size + 1, off := 0 }), Value.pointer (some { block := w3.heap.size + 1 + 1, off := 0 })]] 60)) A c p false where
  hb := ((hb.alloc (by omega) _).alloc (by simp; omega) _).alloc (by simp; omega) _
  gp := Nat.le_refl _
  gb := by simp only [cpX]; omega
  npb := by simp only [cpX]; omega
  npo := by simp only [cpX]; omega
  npn := by simp only [cpX]; omega
  npw := by simp only [cpX]; omega
  nbo := by simp only [cpX]; omega
  nbn := by simp only [cpX]; omega
  nbw := by simp only [cpX]; omega
  cp := (heap_alloc_old _ _ (by simp only [World.size_alloc, cpX]; omega)).trans ((heap_alloc_old _ _ (by simp only [World.size_alloc, cpX]; omega)).trans ((heap_alloc_old _ _ (by simp only [cpX]; omega)).trans cP))
  co := (heap_alloc_old _ _ (by simp only [World.size_alloc, cpX]; omega)).trans ((heap_alloc_old _ _ (by simp only [World.size_alloc, cpX]; omega)).trans ((heap_alloc_old _ _ (by simp only [cpX]; omega)).trans cO))
  cb := (heap_alloc_old _ _ (by simp only [World.size_alloc, cpX]; omega)).trans ((heap_alloc_old _ _ (by simp only [World.size_alloc, cpX]; omega)).trans (heap_alloc_last _ _))
  cn := (heap_alloc_old _ _ (by simp only [World.size_alloc, cpX]; omega)).trans (by have h := heap_alloc_last (w3.alloc (Obj.cells #[Value.bool false] 4)) (Obj.cells #[Value.func (Fn.func 46) #[] #[Value.pointer (some { block := w.heap.size, off := 0 }), Value.pointer (some { block := w3.heap.size, off := 0 })]] 59); rw [World.size_alloc] at h; exact h)
  cw := by
    have h := fun o1 o2 o3 => heap_alloc_last ((w3.alloc o1).alloc o2) o3
    simp only [World.size_alloc] at h
    exact h _ _ _
  rd := hr
  le := hc
set_option maxHeartbeats 4000000 in
set_option maxRecDepth 100000 in
theorem chkproof_main (m n : Nat) (A : Option Addr) (c : Nat) (p : List ByteArray) (old root : ByteArray) (w : World) (hr : Kd.C Kd.string w A p.length p) (hc : p.length ≤ c)
    (h1 : 1 ≤ m) (h2 : m ≤ n) (h3 : n ≤ 1099511627776) (hw1 : wholeB p = true) (hw2 : wholeB [old, root] = true) (r : Int)
    (hfin : r = if (Hs.walk old m n true p).2.2.2 = true ∨ (Hs.walk old m n true p).2.2.1 ≠ [] ∨ (Hs.walk old m n true p).1 ≠ old ∨ (Hs.walk old m n true p).2.1 ≠ root then 9 else 0) :
    Calls Try.prog 27 #[.int .i64 m, .int .i64 n, .slice A p.length c, .string old, .string root] w fun e w' => e = .returned (.int .i64 r) ∧ Below w.heap.size w w' := by
  have HR := Lib.hid hr
  have HC := Lib.hid hc
  have HW1 := Lib.hid hw1
  have HW2 := Lib.hid hw2
  have HF := Lib.hid hfin
  clear hr hc hw1 hw2 hfin
  have f1 : ¬ (m : Int) < 1 := by omega
  have f2 : ¬ (m : Int) > (n : Int) := by omega
  have f3 : ¬ (n : Int) > 1099511627776 := by omega
  go_enter Try.func27, Try.ntmps27
  go_wp2_with fail
  have hb0 : Below w.heap.size w ((w.alloc (Obj.cells #[Value.slice A p.length c] 22)).alloc (Obj.cells #[Value.string old] 9)) := ((Below.refl _ _).alloc (Nat.le_refl _) _).alloc (by simp) _
  refine (hash_whole.calls A c p true _ (Kd.C_below HR.out hb0) HC.out (congrArg some HW1.out)).mono ?_
  rintro e w1 ⟨rfl, hb1⟩
  have cP : Hid (w1.heap[w.heap.size]? = some (.cells #[.slice A p.length c] 22 (0, 0))) := Lib.hid ((hb1.block _ (by simp; omega)).trans ((heap_alloc_old _ _ (by simp)).trans (heap_alloc_last w _)))
  have cO : Hid (w1.heap[w.heap.size + 1]? = some (.cells #[.string old] 9 (0, 0))) := Lib.hid ((hb1.block _ (by simp)).trans (by have h := heap_alloc_last (w.alloc (Obj.cells #[Value.slice A p.length c] 22)) (Obj.cells #[Value.string old] 9); rw [World.size_alloc] at h; exact h))
  have HB1 := Lib.hid (below_then hb0 hb0.size hb1)
  have hs1 : w.heap.size + 2 ≤ w1.heap.size := by have := hb1.size; simp at this; omega
  have kP1 := cell_of_one cP.out
  have kO1 := cell_of_one cO.out
  clear hb0 hb1
  go_wp2_with (first | ((with_reducible refine gate_dst (N := 33) rfl ?_); (try (refine gate_guard (by rfl) ?_; dsimp only)); refine Kd.R_lit Kd.string _ 9 ?hg (N := 33) ?hd (xs := ([old, root] : List ByteArray)) (inner := [.string old, .string root]) (ok := fun _ => True) (okp := fun _ => True) ?hr ?hp (fun _ hk => hk) trivial (Below.refl _ _) (Nat.le_refl _) (by simp) ?_; (case hd => rfl); (case hg => rfl); (case hr => first | (go_simp; done) | (go_simp; rfl)); (case hp => exact (Reps.one (show Kd.M Kd.string _ _ _ old [.string old] from rfl) (Reps.one (show Kd.M Kd.string _ _ _ root [.string root] from rfl) (Reps.none _ _)))); intro v2 w2 ho2 hb2 hg_ hnew_; clear hg_ hnew_; obtain ⟨A2, c2, rfl⟩ := Kd.R_slice ho2; have HO2 := Lib.hid ho2; have HB2 := Lib.hid hb2; clear ho2 hb2) | fail)
  refine (hash_whole.calls A2 c2 [old, root] true _ (Kd.R_reads' HO2.out).2.2 (Kd.R_reads' HO2.out).2.1 (congrArg some HW2.out)).mono ?_
  rintro e w3 ⟨rfl, hb3⟩
  have hb13 := below_then HB2.out HB2.out.size hb3
  have cP3 : Hid (w3.heap[w.heap.size]? = some (.cells #[.slice A p.length c] 22 (0, 0))) := Lib.hid ((hb13.block _ (by omega)).trans cP.out)
  have cO3 : Hid (w3.heap[w.heap.size + 1]? = some (.cells #[.string old] 9 (0, 0))) := Lib.hid ((hb13.block _ (by omega)).trans cO.out)
  have HB3 := Lib.hid (below_then HB1.out HB1.out.size hb13)
  have hs3 : w.heap.size + 2 ≤ w3.heap.size := by have := hb13.size; omega
  have kP3 := cell_of_one cP3.out
  have kO3 := cell_of_one cO3.out
  clear hb13 hb3 kP1 kO1 cP cO HB1 HO2 HB2
  go_wp2_with fail
  have HST := Lib.hid (cpst_start w w3 A c p old HR.out HC.out cP3.out cO3.out HB3.out hs3)
  clear kP3 kO3 cP3 cO3
  refine (walk_calls w (cpX w w3) old (wholeB_small _ HW2.out old (by simp)) n m true p false _ A c h1 h2 h3 (wholeB_small _ HW1.out) HST.out).mono ?_
  rintro e w4 ⟨A4, c4, rfl, hs4⟩
  obtain ⟨q, hq⟩ : ∃ q, q = Hs.walk old m n true p := ⟨_, rfl⟩
  rw [← hq] at hs4 ⊢
  have HQ := Lib.hid hq
  have HS4 := Lib.hid hs4
  clear hq hs4 HST
  obtain ⟨qa, qb, ql, qx⟩ := q
  have kB := cell_of_one HS4.out.cb
  have kP := cell_of_one HS4.out.cp
  have kO := cell_of_one HS4.out.co
  simp only [cpX, Bool.false_or] at kB kP kO
  dsimp only
  have hf := HF.out
  rw [← HQ.out] at hf
  dsimp only at hf
  have HF2 := Lib.hid hf
  clear hf HF
  cases qx with
  | true =>
    go_wp2
    go_ret
    exact ⟨by rw [HF2.out, if_pos (.inl trivial)]; rfl, HS4.out.hb⟩
  | false =>
    cases ql with
    | cons s t =>
      have hpos : (0 : Int) < ((s :: t).length : Int) := by simp
      generalize hL : (s :: t).length = L at *
      have HL := Lib.hid hL
      clear hL
      go_wp2
      go_ret
      exact ⟨by rw [HF2.out, if_pos (.inr (.inl (by simp)))]; rfl, HS4.out.hb⟩
    | nil =>
      simp only [List.length_nil] at kP
      by_cases ha : qa = old
      · subst ha
        by_cases hb : qb = root
        · subst hb
          have e1 : (qa.toList != qa.toList) = false := by simp
          have e2 : (qb.toList != qb.toList) = false := by simp
          go_wp2
          go_ret
          exact ⟨by rw [HF2.out, if_neg (by simp)]; rfl, HS4.out.hb⟩
        · have e1 : (qa.toList != qa.toList) = false := by simp
          have e2 : (qb.toList != root.toList) = true := bne_iff_ne.2 (fun e => hb (toList_inj e))
          have e3 : (qb.toList == root.toList) = false := beq_eq_false_iff_ne.2 (fun e => hb (toList_inj e))
          have HBN := Lib.hid hb
          clear hb
          go_wp2
          go_ret
          exact ⟨by rw [HF2.out, if_pos (.inr (.inr (.inr HBN.out)))]; rfl, HS4.out.hb⟩
      · have e1 : (qa.toList != old.toList) = true := bne_iff_ne.2 (fun e => ha (toList_inj e))
        have e3 : (qa.toList == old.toList) = false := beq_eq_false_iff_ne.2 (fun e => ha (toList_inj e))
        have HAN := Lib.hid ha
        clear ha
        go_wp2
        go_ret
        exact ⟨by rw [HF2.out, if_pos (.inr (.inr (.inl HAN.out)))]; rfl, HS4.out.hb⟩
theorem checkProof_range (m n : Int) (p : List ByteArray) (old root : ByteArray) (h : m < 1 ∨ m > n ∨ n > 1099511627776) : Hs.checkProof m n p old root = 8 := by
  unfold Hs.checkProof
  rw [if_pos h]
theorem wholeL_eq (l : List ByteArray) : Hs.wholeL l = wholeB l := rfl
theorem checkProof_whole (m n : Int) (p : List ByteArray) (old root : ByteArray) (h : ¬ (m < 1 ∨ m > n ∨ n > 1099511627776)) (hw : (wholeB p && wholeB [old, root]) = false) : Hs.checkProof m n p old root = 9 := by
  unfold Hs.checkProof
  rw [if_neg h, wholeL_eq, wholeL_eq, if_pos hw]
set_option maxHeartbeats 4000000 in
set_option maxRecDepth 100000 in
theorem hash_CheckProof.calls (a0 a1 : Int) (A2 : Option Addr) (c2 : Nat) (l2 : List ByteArray) (a3 a4 : ByteArray) (r : Int) (w : World) (hr2 : Kd.C Kd.string w A2 l2.length l2) (hc2 : l2.length ≤ c2) (h : hash_CheckProof.f a0 a1 l2 a3 a4 = some r) :
    Calls Try.prog 27 #[.int .i64 a0, .int .i64 a1, .slice A2 l2.length c2, .string a3, .string a4] w fun e w' => e = .returned (.int .i64 r) ∧ Below w.heap.size w w' := by
  obtain rfl := Option.some.inj h
  clear h
  have HR := Lib.hid hr2
  have HC := Lib.hid hc2
  clear hr2 hc2
  have hb0 : Below w.heap.size w ((w.alloc (Obj.cells #[Value.slice A2 l2.length c2] 22)).alloc (Obj.cells #[Value.string a3] 9)) := ((Below.refl _ _).alloc (Nat.le_refl _) _).alloc (by simp) _
  have HB0 := Lib.hid hb0
  clear hb0
  by_cases h1 : a0 < 1
  · have HV := Lib.hid (checkProof_range a0 a1 l2 a3 a4 (.inl h1))
    go_enter Try.func27, Try.ntmps27
    go_wp2
    go_ret
    exact ⟨by rw [HV.out]; rfl, HB0.out⟩
  by_cases h2 : a0 > a1
  · have HV := Lib.hid (checkProof_range a0 a1 l2 a3 a4 (.inr (.inl h2)))
    go_enter Try.func27, Try.ntmps27
    go_wp2
    go_ret
    exact ⟨by rw [HV.out]; rfl, HB0.out⟩
  by_cases h3 : a1 > 1099511627776
  · have HV := Lib.hid (checkProof_range a0 a1 l2 a3 a4 (.inr (.inr h3)))
    go_enter Try.func27, Try.ntmps27
    go_wp2
    go_ret
    exact ⟨by rw [HV.out]; rfl, HB0.out⟩
  have hnr : ¬ (a0 < 1 ∨ a0 > a1 ∨ a1 > 1099511627776) := fun h => h.elim h1 (fun h => h.elim h2 h3)
  by_cases hw1 : wholeB l2 = true
  · by_cases hw2 : wholeB [a3, a4] = true
    · obtain ⟨m, rfl⟩ := Int.eq_ofNat_of_zero_le (show 0 ≤ a0 by omega)
      obtain ⟨n, rfl⟩ := Int.eq_ofNat_of_zero_le (show 0 ≤ a1 by omega)
      refine chkproof_main m n A2 c2 l2 a3 a4 w HR.out HC.out (by omega) (by omega) (by omega) hw1 hw2 _ ?_
      unfold Hs.checkProof
      rw [if_neg hnr, wholeL_eq, wholeL_eq, hw1, hw2]
      rfl
    · have HV := Lib.hid (checkProof_whole a0 a1 l2 a3 a4 hnr (by rw [Bool.and_eq_false_iff]; exact .inr (by simpa using hw2)))
      have HW1 := Lib.hid hw1
      have HW2 := Lib.hid (show wholeB [a3, a4] = false by simpa using hw2)
      clear hw1 hw2 hnr
      go_enter Try.func27, Try.ntmps27
      go_wp2_with fail
      refine (hash_whole.calls A2 c2 l2 true _ (Kd.C_below HR.out HB0.out) HC.out (congrArg some HW1.out)).mono ?_
      rintro e w1 ⟨rfl, hb1⟩
      have cO : Hid (w1.heap[w.heap.size + 1]? = some (.cells #[.string a3] 9 (0, 0))) := Lib.hid ((hb1.block _ (by simp)).trans (by have h := heap_alloc_last (w.alloc (Obj.cells #[Value.slice A2 l2.length c2] 22)) (Obj.cells #[Value.string a3] 9); rw [World.size_alloc] at h; exact h))
      have HB1 := Lib.hid (below_then HB0.out HB0.out.size hb1)
      have kO1 := cell_of_one cO.out
      clear hb1
      go_wp2_with (first | ((with_reducible refine gate_dst (N := 33) rfl ?_); (try (refine gate_guard (by rfl) ?_; dsimp only)); refine Kd.R_lit Kd.string _ 9 ?hg (N := 33) ?hd (xs := ([a3, a4] : List ByteArray)) (inner := [.string a3, .string a4]) (ok := fun _ => True) (okp := fun _ => True) ?hr ?hp (fun _ hk => hk) trivial (Below.refl _ _) (Nat.le_refl _) (by simp) ?_; (case hd => rfl); (case hg => rfl); (case hr => first | (go_simp; done) | (go_simp; rfl)); (case hp => exact (Reps.one (show Kd.M Kd.string _ _ _ a3 [.string a3] from rfl) (Reps.one (show Kd.M Kd.string _ _ _ a4 [.string a4] from rfl) (Reps.none _ _)))); intro v2 w2 ho2 hb2 hg_ hnew_; clear hg_ hnew_; obtain ⟨A3, c3, rfl⟩ := Kd.R_slice ho2; have HO2 := Lib.hid ho2; have HB2 := Lib.hid hb2; clear ho2 hb2) | fail)
      refine (hash_whole.calls A3 c3 [a3, a4] false _ (Kd.R_reads' HO2.out).2.2 (Kd.R_reads' HO2.out).2.1 (congrArg some HW2.out)).mono ?_
      rintro e w3 ⟨rfl, hb3⟩
      have HB3 := Lib.hid (below_then HB1.out HB1.out.size (below_then HB2.out HB2.out.size hb3))
      clear hb3
      go_wp2
      go_ret
      exact ⟨by rw [HV.out]; rfl, HB3.out⟩
  · have HV := Lib.hid (checkProof_whole a0 a1 l2 a3 a4 hnr (by rw [Bool.and_eq_false_iff]; exact .inl (by simpa using hw1)))
    have HW1 := Lib.hid (show wholeB l2 = false by simpa using hw1)
    clear hw1 hnr
    go_enter Try.func27, Try.ntmps27
    go_wp2_with fail
    refine (hash_whole.calls A2 c2 l2 false _ (Kd.C_below HR.out HB0.out) HC.out (congrArg some HW1.out)).mono ?_
    rintro e w1 ⟨rfl, hb1⟩
    have HB1 := Lib.hid (below_then HB0.out HB0.out.size hb1)
    clear hb1
    go_wp2
    go_ret
    exact ⟨by rw [HV.out]; rfl, HB1.out⟩
end Go.Proofs.Ytkbbdbnjplcjdaa
end
section
/-
  The program's Root, Path, Proof, sides, inputs, CheckPath, as the plain text Hs has them.
-/
namespace Go.Proofs.Ytkbbdbnjplcjdaa.F
open Go.RowKit Go.Proofs.Ytkbbdbnjplcjdaa Go.Proofs.YtkbbdbnjplcjdaaW.PrintWords Go.Proofs.YtkbbdbnjplcjdaaW.PrintLast Go.Proofs.YtkbbdbnjplcjdaaW.PrintMore
set_option linter.unusedVariables false
set_option linter.unusedSimpArgs false
def smalls (l : List ByteArray) : Prop := ∀ x ∈ l, small x
theorem smalls_take {l : List ByteArray} (h : smalls l) (k : Nat) : smalls (l.take k) := fun x hx => h x (List.mem_of_mem_take hx)
theorem smalls_drop {l : List ByteArray} (h : smalls l) (k : Nat) : smalls (l.drop k) := fun x hx => h x (List.mem_of_mem_drop hx)
theorem small_32 {x : ByteArray} (h : x.size = 32) : small x := by unfold small; omega
theorem smalls_32 {l : List ByteArray} (h : ∀ x ∈ l, x.size = 32) : smalls l := fun x hx => small_32 (h x hx)
theorem small_root (l : List ByteArray) (h : smalls l) : small (Hs.root l) := by
  by_cases h2 : 2 ≤ l.length
  · rw [Hs.root_many l h2]; exact small_node _ _
  · cases l with
    | nil => rw [Hs.root_nil]; exact small_32 (Sha.sum_size _)
    | cons x r => cases r with
      | nil => rw [Hs.root_one]; exact h x (by simp)
      | cons y r => simp at h2
theorem root_ev (n : Nat) : ∀ (l : List ByteArray), l.length = n → n ≤ 1152921504606846976 → smalls l → Ev (fun k => hash_Root.f k l) (Hs.root l) := by
  induction n using Nat.strongRecOn with
  | ind n ih =>
    intro l hl hn hs
    by_cases h2 : 2 ≤ n
    · have hc := Hs.cut_lt n h2
      have hp := Hs.cut_pos n
      have e1 := ih (Hs.cut n) hc (l.take (Hs.cut n)) (by rw [← hl]; exact Hs.take_len l (by omega)) (by omega) (smalls_take hs _)
      have e2 := ih (n - Hs.cut n) (by omega) (l.drop (Hs.cut n)) (by rw [List.length_drop, hl]) (by omega) (smalls_drop hs _)
      refine Ev.step (f := fun k => (hash_Root.f k (l.take (Hs.cut n))).bind fun t => (hash_Root.f k (l.drop (Hs.cut n))).bind fun t' => (hash_Node.f t t').bind fun t'' => some t'') (fun k => ?_) (Ev.bind e1 (Ev.bind e2 (Ev.congr (fun _ => ?_) (Ev.now _))))
      · simp only [hash_Root.f]
        rw [hl, if_neg (by omega), if_neg (by omega), cut_some n h2 (by omega), Option.bind_some, if_pos (by omega), if_pos (by omega), Int.toNat_natCast]
      · rw [Hs.root_many l (by omega), hl, node_small _ _ (small_root _ (smalls_take hs _)) (small_root _ (smalls_drop hs _))]
        rfl
    · refine Ev.step (f := fun _ => some (Hs.root l)) (fun k => ?_) (Ev.now _)
      simp only [hash_Root.f]
      cases l with
      | nil =>
        rw [if_pos (show (([] : List ByteArray).length : Int) = 0 from rfl), sum_ok [] (by simp) (by simp), Hs.root_nil]
        rfl
      | cons x r => cases r with
        | nil =>
          rw [if_neg (show ¬ (([x] : List ByteArray).length : Int) = 0 by simp), if_pos (show (([x] : List ByteArray).length : Int) = 1 from rfl), if_pos (show 0 < (([x] : List ByteArray).length : Int) by simp), Hs.root_one]
          rfl
        | cons y r => simp at hl; omega
theorem path_from (n : Nat) : ∀ (l : List ByteArray) (i : Nat) (acc : List ByteArray), l.length = n → 1 ≤ n → i < n → n ≤ 1152921504606846976 → smalls l → acc.length + (Hs.sides i n).length ≤ 4398046511104 →
    Ev (fun k => hash_Path.l0 k l (i : Int) acc) (Hs.path l i ++ acc.reverse, 0) := by
  induction n using Nat.strongRecOn with
  | ind n ih =>
    intro l i acc hl h1 hi hn hs ha
    by_cases h2 : 2 ≤ n
    · have hc := Hs.cut_lt n h2
      have hp := Hs.cut_pos n
      by_cases hk : i < Hs.cut n
      · rw [Hs.sides_left i n h2 hk, List.length_append, List.length_singleton] at ha
        have e0 := root_ev (n - Hs.cut n) (l.drop (Hs.cut n)) (by rw [List.length_drop, hl]) (by omega) (smalls_drop hs _)
        have e1 := ih (Hs.cut n) hc (l.take (Hs.cut n)) i (acc ++ [Hs.root (l.drop (Hs.cut n))]) (by rw [← hl]; exact Hs.take_len l (by omega)) hp hk (by omega) (smalls_take hs _) (by rw [List.length_append, List.length_singleton]; omega)
        rw [Hs.path_left l i (by omega) (by rw [hl]; exact hk), hl]
        refine Ev.step (f := fun k => (hash_Root.f k (l.drop (Hs.cut n))).bind fun t => if acc.length < 8796093022208 then hash_Path.l0 k (l.take (Hs.cut n)) (i : Int) (acc ++ [t]) else none) (fun k => ?_) (Ev.bind e0 (Ev.congr (fun k => if_pos (by omega)) (by simpa using e1)))
        simp only [hash_Path.l0]
        rw [hl, if_pos (by omega), cut_some n h2 (by omega), Option.bind_some, if_pos (by omega), if_pos (by omega), if_pos (by omega), Int.toNat_natCast]
      · rw [Hs.sides_right i n h2 (by omega), List.length_append, List.length_singleton] at ha
        have e0 := root_ev (Hs.cut n) (l.take (Hs.cut n)) (by rw [← hl]; exact Hs.take_len l (by omega)) (by omega) (smalls_take hs _)
        have e1 := ih (n - Hs.cut n) (by omega) (l.drop (Hs.cut n)) (i - Hs.cut n) (acc ++ [Hs.root (l.take (Hs.cut n))]) (by rw [List.length_drop, hl]) (by omega) (by omega) (by omega) (smalls_drop hs _) (by rw [List.length_append, List.length_singleton]; omega)
        rw [Hs.path_right l i (by omega) (by rw [hl]; omega), hl]
        refine Ev.step (f := fun k => (hash_Root.f k (l.take (Hs.cut n))).bind fun t => if acc.length < 8796093022208 then hash_Path.l0 k (l.drop (Hs.cut n)) (((i - Hs.cut n : Nat) : Int)) (acc ++ [t]) else none) (fun k => ?_) (Ev.bind e0 (Ev.congr (fun k => if_pos (by omega)) (by simpa using e1)))
        simp only [hash_Path.l0]
        rw [hl, if_pos (by omega), cut_some n h2 (by omega), Option.bind_some, if_neg (by omega), if_pos (by omega), if_pos (by omega), Int.toNat_natCast, show wrap64 ((i : Int) - (Hs.cut n : Int)) = ((i - Hs.cut n : Nat) : Int) by unfold wrap64; omega]
    · rw [Hs.path_few l i (by omega), List.nil_append]
      refine Ev.step (f := fun k => (slices_Reverse_string_string.f k acc).bind fun t => some (t, 0)) (fun k => ?_) (Ev.bind (f := fun _ t => some (t, 0)) (rev_string acc (by omega)) (Ev.now _))
      simp only [hash_Path.l0]
      rw [hl, if_neg (by omega)]
theorem sides_le (n : Nat) : ∀ i e, n ≤ 2 ^ e → (Hs.sides i n).length ≤ e := by
  induction n using Nat.strongRecOn with
  | ind n ih =>
    intro i e he
    by_cases h2 : 2 ≤ n
    · have hc := Hs.cut_lt n h2
      have hp := Hs.cut_pos n
      have hc2 := Hs.cut_two n h2
      cases e with
      | zero => simp at he; omega
      | succ e =>
        have hle : Hs.cut n ≤ 2 ^ e := by
          unfold Hs.cut at hc ⊢
          rcases Nat.lt_or_ge e (bitLen (n - 1) - 1) with h | h
          · have : 2 ^ (e + 1) ≤ 2 ^ (bitLen (n - 1) - 1) := Nat.pow_le_pow_right (by omega) (by omega)
            omega
          · exact Nat.pow_le_pow_right (by omega) h
        by_cases hk : i < Hs.cut n
        · rw [Hs.sides_left i n h2 hk, List.length_append, List.length_singleton]
          have := ih (Hs.cut n) hc i e hle
          omega
        · rw [Hs.sides_right i n h2 (by omega), List.length_append, List.length_singleton]
          have := ih (n - Hs.cut n) (by omega) (i - Hs.cut n) e (by omega)
          omega
    · rw [Hs.sides_few i n (by omega)]; simp
theorem sides_60 (i n : Nat) (h : n ≤ 1152921504606846976) : (Hs.sides i n).length ≤ 60 := sides_le n i 60 h
/-- a path, or that there is none -/
def pathR (l : List ByteArray) (i : Int) : List ByteArray × Int := if 0 ≤ i ∧ i < (l.length : Int) then (Hs.path l i.toNat, 0) else ([], 8)
theorem path_ev (l : List ByteArray) (i : Int) (hn : l.length ≤ 1152921504606846976) (hs : smalls l) : Ev (fun k => hash_Path.f k l i) (pathR l i) := by
  unfold pathR
  by_cases h : 0 ≤ i ∧ i < (l.length : Int)
  · rw [if_pos h]
    obtain ⟨j, rfl⟩ := Int.eq_ofNat_of_zero_le h.1
    have e := path_from l.length l j [] rfl (by omega) (by omega) hn hs (by have := sides_60 j l.length hn; simp; omega)
    rw [List.reverse_nil, List.append_nil] at e
    refine Ev.congr (f := fun k => hash_Path.j0 k l (j : Int) false) (fun k => ?_) (Ev.step (fun k => ?_) e)
    · unfold hash_Path.f
      rw [if_neg (by omega), decide_eq_false (by omega)]
    · simp only [hash_Path.j0]
      rfl
  · rw [if_neg h]
    refine Ev.congr (f := fun k => hash_Path.j0 k l i true) (fun k => ?_) (Ev.step (f := fun _ => some ([], 8)) (fun k => ?_) (Ev.now _))
    · unfold hash_Path.f
      by_cases h0 : i < 0
      · rw [if_pos h0]
      · rw [if_neg h0, decide_eq_true (by omega)]
    · simp only [hash_Path.j0]
      rfl
theorem cut_half (n e : Nat) (h2 : 2 ≤ n) (he : n ≤ 2 ^ (e + 1)) : Hs.cut n ≤ 2 ^ e ∧ n - Hs.cut n ≤ 2 ^ e := by
  have hc := Hs.cut_lt n h2
  have hc2 := Hs.cut_two n h2
  have hle : Hs.cut n ≤ 2 ^ e := by
    unfold Hs.cut at hc ⊢
    rcases Nat.lt_or_ge e (bitLen (n - 1) - 1) with h | h
    · have : 2 ^ (e + 1) ≤ 2 ^ (bitLen (n - 1) - 1) := Nat.pow_le_pow_right (by omega) (by omega)
      omega
    · exact Nat.pow_le_pow_right (by omega) h
  omega
theorem proof_from (n : Nat) : ∀ (e : Nat) (l : List ByteArray) (m : Nat) (acc : List ByteArray) (own : Bool), l.length = n → 1 ≤ m → m ≤ n → n ≤ 2 ^ e → n ≤ 1152921504606846976 → smalls l → acc.length + e ≤ 200 →
    Ev (fun k => hash_Proof.l0 k l (m : Int) acc own) (Hs.sub m l own ++ acc.reverse, 0) := by
  induction n using Nat.strongRecOn with
  | ind n ih =>
    intro e l m acc own hl h1 hm he hn hs ha
    by_cases hmn : m = n
    · subst hmn
      subst hl
      rw [Hs.sub_all]
      cases own with
      | true =>
        refine Ev.step (f := fun k => (slices_Reverse_string_string.f k acc).bind fun t => some (t, 0)) (fun k => ?_) (Ev.bind (f := fun _ t => some (t, 0)) (rev_string acc (by omega)) (Ev.now _))
        simp only [hash_Proof.l0]
        rw [if_neg (by omega), if_pos trivial]
      | false =>
        have e0 := root_ev l.length l rfl hn hs
        refine Ev.step (f := fun k => (hash_Root.f k l).bind fun t => if acc.length < 8796093022208 then ((slices_Reverse_string_string.f k (acc ++ [t])).bind fun t' => some (t', 0)) else none) (fun k => ?_) (Ev.bind e0 (Ev.congr (fun k => if_pos (by omega)) (Ev.bind (f := fun _ t => some (t, 0)) (rev_string (acc ++ [Hs.root l]) (by simp; omega)) ?_)))
        · simp only [hash_Proof.l0]
          rw [if_neg (by omega), if_neg (by simp)]
        · rw [List.reverse_append]
          exact Ev.now _
    · have h2 : 2 ≤ n := by omega
      have hc := Hs.cut_lt n h2
      have hp := Hs.cut_pos n
      cases e with
      | zero => simp at he; omega
      | succ e =>
        obtain ⟨he1, he2⟩ := cut_half n e h2 he
        by_cases hk : m ≤ Hs.cut n
        · have e0 := root_ev (n - Hs.cut n) (l.drop (Hs.cut n)) (by rw [List.length_drop, hl]) (by omega) (smalls_drop hs _)
          have e1 := ih (Hs.cut n) hc e (l.take (Hs.cut n)) m (acc ++ [Hs.root (l.drop (Hs.cut n))]) own (by rw [← hl]; exact Hs.take_len l (by omega)) h1 hk he1 (by omega) (smalls_take hs _) (by rw [List.length_append, List.length_singleton]; omega)
          rw [Hs.sub_left m l own (by omega) (by omega) (by rw [hl]; exact hk), hl]
          refine Ev.step (f := fun k => (hash_Root.f k (l.drop (Hs.cut n))).bind fun t => if acc.length < 8796093022208 then hash_Proof.l0 k (l.take (Hs.cut n)) (m : Int) (acc ++ [t]) own else none) (fun k => ?_) (Ev.bind e0 (Ev.congr (fun k => if_pos (by omega)) (by simpa using e1)))
          simp only [hash_Proof.l0]
          rw [hl, if_pos (by omega), cut_some n h2 (by omega), Option.bind_some, if_pos (by omega), if_pos (by omega), if_pos (by omega), Int.toNat_natCast]
        · have e0 := root_ev (Hs.cut n) (l.take (Hs.cut n)) (by rw [← hl]; exact Hs.take_len l (by omega)) (by omega) (smalls_take hs _)
          have e1 := ih (n - Hs.cut n) (by omega) e (l.drop (Hs.cut n)) (m - Hs.cut n) (acc ++ [Hs.root (l.take (Hs.cut n))]) false (by rw [List.length_drop, hl]) (by omega) (by omega) he2 (by omega) (smalls_drop hs _) (by rw [List.length_append, List.length_singleton]; omega)
          rw [Hs.sub_right m l own (by omega) (by omega) (by rw [hl]; omega), hl]
          refine Ev.step (f := fun k => (hash_Root.f k (l.take (Hs.cut n))).bind fun t => if acc.length < 8796093022208 then hash_Proof.l0 k (l.drop (Hs.cut n)) (((m - Hs.cut n : Nat) : Int)) (acc ++ [t]) false else none) (fun k => ?_) (Ev.bind e0 (Ev.congr (fun k => if_pos (by omega)) (by simpa using e1)))
          simp only [hash_Proof.l0]
          rw [hl, if_pos (by omega), cut_some n h2 (by omega), Option.bind_some, if_neg (by omega), if_pos (by omega), if_pos (by omega), Int.toNat_natCast, show wrap64 ((m : Int) - (Hs.cut n : Int)) = ((m - Hs.cut n : Nat) : Int) by unfold wrap64; omega]
/-- a beginning's proof, or that there is none -/
def proofR (l : List ByteArray) (m : Int) : List ByteArray × Int := if 1 ≤ m ∧ m ≤ (l.length : Int) then (Hs.sub m.toNat l true, 0) else ([], 8)
theorem proof_ev (l : List ByteArray) (m : Int) (hn : l.length ≤ 1152921504606846976) (hs : smalls l) : Ev (fun k => hash_Proof.f k l m) (proofR l m) := by
  unfold proofR
  by_cases h : 1 ≤ m ∧ m ≤ (l.length : Int)
  · rw [if_pos h]
    obtain ⟨j, rfl⟩ := Int.eq_ofNat_of_zero_le (show 0 ≤ m by omega)
    have e := proof_from l.length 60 l j [] true rfl (by omega) (by omega) hn hn hs (by simp)
    rw [List.reverse_nil, List.append_nil] at e
    refine Ev.congr (f := fun k => hash_Proof.j0 k l (j : Int) false) (fun k => ?_) (Ev.step (fun k => ?_) e)
    · unfold hash_Proof.f
      rw [if_neg (by omega), decide_eq_false (by omega)]
    · simp only [hash_Proof.j0]
      rfl
  · rw [if_neg h]
    refine Ev.congr (f := fun k => hash_Proof.j0 k l m true) (fun k => ?_) (Ev.step (f := fun _ => some ([], 8)) (fun k => ?_) (Ev.now _))
    · unfold hash_Proof.f
      by_cases h0 : m < 1
      · rw [if_pos h0]
      · rw [if_neg h0, decide_eq_true (by omega)]
    · simp only [hash_Proof.j0]
      rfl
theorem sides_from (n : Nat) : ∀ (e i : Nat) (acc : List Bool), i < n → n ≤ 2 ^ e → n ≤ 1152921504606846976 → acc.length + e ≤ 200 →
    Ev (fun k => hash_sides.l0 k (i : Int) (n : Int) acc) (Hs.sides i n ++ acc.reverse) := by
  induction n using Nat.strongRecOn with
  | ind n ih =>
    intro e i acc hi he hn ha
    by_cases h2 : 2 ≤ n
    · have hc := Hs.cut_lt n h2
      have hp := Hs.cut_pos n
      cases e with
      | zero => simp at he; omega
      | succ e =>
        obtain ⟨he1, he2⟩ := cut_half n e h2 he
        by_cases hk : i < Hs.cut n
        · have e1 := ih (Hs.cut n) hc e i (acc ++ [true]) hk he1 (by omega) (by rw [List.length_append, List.length_singleton]; omega)
          rw [Hs.sides_left i n h2 hk]
          refine Ev.step (f := fun k => hash_sides.l0 k (i : Int) (Hs.cut n : Int) (acc ++ [true])) (fun k => ?_) (by simpa using e1)
          simp only [hash_sides.l0]
          rw [if_pos (by omega), cut_some n h2 (by omega), Option.bind_some, if_pos (by omega), Option.bind_some, if_pos (by omega), decide_eq_true (by omega)]
        · have e1 := ih (n - Hs.cut n) (by omega) e (i - Hs.cut n) (acc ++ [false]) (by omega) he2 (by omega) (by rw [List.length_append, List.length_singleton]; omega)
          rw [Hs.sides_right i n h2 (by omega)]
          refine Ev.step (f := fun k => hash_sides.l0 k (((i - Hs.cut n : Nat) : Int)) (((n - Hs.cut n : Nat) : Int)) (acc ++ [false])) (fun k => ?_) (by simpa using e1)
          simp only [hash_sides.l0]
          rw [if_pos (by omega), cut_some n h2 (by omega), Option.bind_some, if_pos (by omega), Option.bind_some, if_neg (by omega), decide_eq_false (by omega), show wrap64 ((i : Int) - (Hs.cut n : Int)) = ((i - Hs.cut n : Nat) : Int) by unfold wrap64; omega, show wrap64 ((n : Int) - (Hs.cut n : Int)) = ((n - Hs.cut n : Nat) : Int) by unfold wrap64; omega]
    · rw [Hs.sides_few i n (by omega), List.nil_append]
      refine Ev.step (f := fun k => (slices_Reverse_bool_bool.f k acc).bind fun t => some t) (fun k => ?_) (Ev.bind (f := fun _ t => some t) (rev_bool acc (by omega)) (Ev.now _))
      simp only [hash_sides.l0]
      rw [if_neg (by omega)]
theorem sides_ev (i n : Nat) (hi : i < n) (hn : n ≤ 1152921504606846976) : Ev (fun k => hash_sides.f k (i : Int) (n : Int)) (Hs.sides i n) := by
  have := sides_from n 60 i [] hi hn hn (by simp)
  simpa [hash_sides.f] using this
theorem rdOf_n (l : List ByteArray) (i : Nat) : rdOf ByteArray.empty l (i : Int) = l.getD i ByteArray.empty := by simp [rdOf]
theorem rdOf_b (l : List Bool) (i : Nat) : rdOf false l (i : Int) = l.getD i false := by simp [rdOf]
theorem small_sum (l : List Int) : small (Sha.sum l) := small_32 (Sha.sum_size l)
theorem step_length (b : Bool) (x p : ByteArray) (hx : small x) (hp : small p) : (Hs.step b x p).length ≤ 140737488354000 := by
  unfold small at hx hp
  unfold Hs.step
  cases b
  · rw [if_neg (by simp), joined_length]; omega
  · rw [if_pos rfl, joined_length]; omega
theorem inputs_from (bs : List Bool) (ps : List ByteArray) (hl : ps.length = bs.length) (hb : bs.length ≤ 1000) (hs : smalls ps) (d : Nat) : ∀ (i : Nat) (x : ByteArray) (acc : List (List Int)), i + d = bs.length → small x → acc.length ≤ i →
    Ev (fun k => hash_inputs.l0 k x ps acc bs (bs.length : Int) (i : Int)) (acc ++ Hs.inputs x (bs.drop i) (ps.drop i), Hs.climb x (bs.drop i) (ps.drop i)) := by
  induction d with
  | zero =>
    intro i x acc hi hx ha
    rw [List.drop_eq_nil_of_le (by omega), List.drop_eq_nil_of_le (by omega)]
    simp only [Hs.inputs, Hs.climb, List.append_nil]
    refine Ev.step (f := fun _ => some _) (fun k => ?_) (Ev.now _)
    simp only [hash_inputs.l0]
    rw [if_neg (by omega)]
  | succ d ih =>
    intro i x acc hi hx ha
    have h1 : i < bs.length := by omega
    have h2 : i < ps.length := by omega
    have hp : small ps[i] := hs _ (List.getElem_mem h2)
    have hsl := step_length bs[i] x ps[i] hx hp
    have e := ih (i + 1) (Sha.sum (Hs.step bs[i] x ps[i])) (acc ++ [Hs.step bs[i] x ps[i]]) (by omega) (small_sum _) (by rw [List.length_append, List.length_singleton]; omega)
    rw [List.drop_eq_getElem_cons h1, List.drop_eq_getElem_cons h2]
    simp only [Hs.inputs, Hs.climb, List.headD_cons, List.tail_cons]
    rw [List.append_assoc, List.singleton_append] at e
    refine Ev.step (fun k => ?_) e
    simp only [hash_inputs.l0]
    rw [if_pos (by omega), if_pos (by omega), if_pos (by omega), if_pos (by omega), rdOf_n, rdOf_b, List.getD_eq_getElem?_getD, List.getElem?_eq_getElem h2, List.getD_eq_getElem?_getD, List.getElem?_eq_getElem h1, Option.getD_some, Option.getD_some, joined_some _ _ (by unfold small at hx hp; omega), Option.bind_some]
    have hw : wrap64 ((i : Int) + 1) = ((i + 1 : Nat) : Int) := by unfold wrap64; omega
    cases hb' : bs[i] with
    | true =>
      rw [hb'] at hsl
      rw [if_pos rfl, joined_some _ _ (by unfold small at hx hp; omega), Option.bind_some, if_pos (by omega), sum_ok _ (joined_range _ _) (by have := step_length true x ps[i] hx hp; simp only [Hs.step, if_true] at this; omega), Option.bind_some, hw]
      rfl
    | false =>
      rw [hb'] at hsl
      rw [if_neg (by simp), if_pos (by omega), sum_ok _ (joined_range _ _) (by have := step_length false x ps[i] hx hp; simp only [Hs.step, Bool.false_eq_true, if_false] at this; omega), Option.bind_some, hw]
      rfl
theorem inputs_ev (x : ByteArray) (bs : List Bool) (ps : List ByteArray) (hl : ps.length = bs.length) (hb : bs.length ≤ 1000) (hs : smalls ps) (hx : small x) : Ev (fun k => hash_inputs.f k x bs ps) (Hs.inputs x bs ps, Hs.climb x bs ps) := by
  have := inputs_from bs ps hl hb hs bs.length 0 x [] (by omega) hx (by simp)
  simpa [hash_inputs.f] using this
def placed (i n : Int) : Bool := decide (1 ≤ n) && decide (n ≤ 1099511627776) && decide (0 ≤ i) && decide (i < n)
theorem placed_some (i n : Int) : hash_placed.f i n = some (placed i n) := by
  unfold hash_placed.f placed
  by_cases h1 : n ≥ 1
  · by_cases h2 : n ≤ 1099511627776
    · by_cases h3 : i ≥ 0
      · rw [if_pos h1, if_pos h2, if_pos h3]; simp [h1, h2, h3]
      · rw [if_pos h1, if_pos h2, if_neg h3]; simp; omega
    · rw [if_pos h1, if_neg h2]; simp; omega
  · rw [if_neg h1]; simp; omega
/-- 0: taken; 8: no such place; 9: not taken -/
def checkPath (leaf : ByteArray) (i n : Int) (path : List ByteArray) (root : ByteArray) : Int :=
  if placed i n = false then 8 else
  if path.length ≠ (Hs.sides i.toNat n.toNat).length ∨ wholeB path = false ∨ wholeB [leaf, root] = false then 9 else
  if Hs.climb leaf (Hs.sides i.toNat n.toNat) path = root then 0 else 9
theorem placed_nat {i n : Int} (h : placed i n = true) : ∃ a b : Nat, i = a ∧ n = b ∧ a < b ∧ b ≤ 1099511627776 := by
  unfold placed at h
  simp only [Bool.and_eq_true, decide_eq_true_eq] at h
  obtain ⟨⟨⟨h1, h2⟩, h3⟩, h4⟩ := h
  exact ⟨i.toNat, n.toNat, by omega, by omega, by omega, by omega⟩
theorem checkPath_ev (leaf : ByteArray) (i n : Int) (path : List ByteArray) (root : ByteArray) : Ev (fun k => hash_CheckPath.f k leaf i n path root) (checkPath leaf i n path root) := by
  unfold checkPath
  cases hp : placed i n with
  | false =>
    rw [if_pos rfl]
    refine Ev.congr (f := fun _ => some 8) (fun k => ?_) (Ev.now _)
    unfold hash_CheckPath.f
    rw [placed_some, hp, Option.bind_some, if_neg (by simp)]
  | true =>
    rw [if_neg (by simp)]
    obtain ⟨a, b, rfl, rfl, hab, hb⟩ := placed_nat hp
    simp only [Int.toNat_natCast]
    have es := sides_ev a b hab (by omega)
    have hsl := sides_60 a b (by omega)
    have key : ∀ R, Ev (fun k => if (path.length : Int) = ((Hs.sides a b).length : Int) then ((hash_whole.f path).bind fun t229 => (if t229 = true then ((hash_whole.f (([leaf, root] : List ByteArray))).bind fun t233 => (hash_CheckPath.j0 k leaf path root (Hs.sides a b) (!t233))) else (hash_CheckPath.j0 k leaf path root (Hs.sides a b) true))) else (hash_CheckPath.j0 k leaf path root (Hs.sides a b) true)) R → Ev (fun k => hash_CheckPath.f k leaf (a : Int) (b : Int) path root) R := by
      intro R hR
      refine Ev.congr (f := fun k => (hash_sides.f k (a : Int) (b : Int)).bind fun t226 => (if (path.length : Int) = (t226.length : Int) then ((hash_whole.f path).bind fun t229 => (if t229 = true then ((hash_whole.f (([leaf, root] : List ByteArray))).bind fun t233 => (hash_CheckPath.j0 k leaf path root t226 (!t233))) else (hash_CheckPath.j0 k leaf path root t226 true))) else (hash_CheckPath.j0 k leaf path root t226 true))) (fun k => ?_) (Ev.bind es hR)
      unfold hash_CheckPath.f
      rw [placed_some, hp, Option.bind_some, if_pos rfl]
    have nine : Ev (fun k => hash_CheckPath.j0 k leaf path root (Hs.sides a b) true) 9 := Ev.step (f := fun _ => some 9) (fun k => by simp only [hash_CheckPath.j0]; rfl) (Ev.now _)
    apply key
    by_cases hlen : path.length = (Hs.sides a b).length
    · cases hw1 : wholeB path with
      | false =>
        rw [if_pos (.inr (.inl rfl))]
        refine Ev.congr (fun k => ?_) nine
        rw [if_pos (by omega), show hash_whole.f path = some false from congrArg some hw1, Option.bind_some, if_neg (by simp)]
      | true =>
        cases hw2 : wholeB [leaf, root] with
        | false =>
          rw [if_pos (.inr (.inr rfl))]
          refine Ev.congr (fun k => ?_) nine
          rw [if_pos (by omega), show hash_whole.f path = some true from congrArg some hw1, Option.bind_some, if_pos rfl, show hash_whole.f [leaf, root] = some false from congrArg some hw2, Option.bind_some]
          rfl
        | true =>
          rw [if_neg (by simp [hlen])]
          have hin := inputs_ev leaf (Hs.sides a b) path hlen (by omega) (wholeB_small _ hw1) (wholeB_small _ hw2 leaf (by simp))
          refine Ev.congr (f := fun k => hash_CheckPath.j0 k leaf path root (Hs.sides a b) false) (fun k => ?_) (Ev.step (f := fun k => (hash_inputs.f k leaf (Hs.sides a b) path).bind fun bt234 => (if bt234.2.toList = root.toList then (some 0) else (some 9))) (fun k => ?_) (Ev.bind hin (Ev.congr (fun _ => ?_) (Ev.now _))))
          · rw [if_pos (by omega), show hash_whole.f path = some true from congrArg some hw1, Option.bind_some, if_pos rfl, show hash_whole.f [leaf, root] = some true from congrArg some hw2, Option.bind_some]
            rfl
          · simp only [hash_CheckPath.j0]
            rw [if_neg (by simp)]
          · by_cases ht : Hs.climb leaf (Hs.sides a b) path = root
            · rw [if_pos (by rw [ht]), if_pos ht]
            · rw [if_neg (fun e => ht (toList_inj e)), if_neg ht]
    · rw [if_pos (.inl hlen)]
      refine Ev.congr (fun k => ?_) nine
      rw [if_neg (by omega)]
end Go.Proofs.Ytkbbdbnjplcjdaa.F
end
