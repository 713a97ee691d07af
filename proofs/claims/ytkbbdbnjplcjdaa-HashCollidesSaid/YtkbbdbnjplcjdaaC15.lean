-- JOINED BY A PROGRAM OF THIS PLACE (wip/tools/pack.py) out of: ChkProof HsProg Collide
import Derived.Laws.EntriesVeiled
import Derived.Test.YtkbbdbnjplcjdaaC3
import Derived.Test.YtkbbdbnjplcjdaaC6
import Derived.Test.YtkbbdbnjplcjdaaC7
import Derived.Test.YtkbbdbnjplcjdaaC12
import Derived.Test.YtkbbdbnjplcjdaaC13
import Derived.Test.YtkbbdbnjplcjdaaC14
section
/-
  hash.CheckProof: what it answers is what the plain text Hs.checkProof does.
-/
namespace Go.Proofs.Ytkbbdbnjplcjdaa
open Go.RowKit Go.Proofs.YtkbbdbnjplcjdaaW.PrintWords Go.Proofs.YtkbbdbnjplcjdaaW.PrintLast Go.Proofs.YtkbbdbnjplcjdaaW.PrintMore
set_option linter.unusedVariables false
set_option linter.unusedSimpArgs false
def hash_CheckProof.f (a0 a1 : Int) (l2 : List ByteArray) (a3 a4 : ByteArray) : Option Int := some (Hs.checkProof a0 a1 l2 a3 a4)
theorem wholeB_small (l : List ByteArray) (h : wholeB l = true) : ∀ x ∈ l, small x := by
  intro x hx
  unfold wholeB at h
  rw [List.all_eq_true] at h
  have := h x hx
  unfold small
  have e : x.size = 32 := by simpa using this
  omega
theorem toList_inj {a b : ByteArray} (h : a.toList = b.toList) : a = b := by
  rw [ByteArray.toList_eq, ByteArray.toList_eq] at h
  cases a
  cases b
  congr 1
  exact Array.toList_inj.1 h
def cpX (w w3 : World) : CPBox := ⟨w.heap.size, w.heap.size + 1, w3.heap.size, w3.heap.size + 1, w3.heap.size + 1 + 1⟩
theorem cpst_start (w w3 : World) (A : Option Addr) (c : Nat) (p : List ByteArray) (old : ByteArray) (hr : Kd.C Kd.string w A p.length p) (hc : p.length ≤ c) (cP : w3.heap[w.heap.size]? = some (.cells #[.slice A p.length c] 22 (0, 0)))
    (cO : w3.heap[w.heap.size + 1]? = some (.cells #[.string old] 9 (0, 0))) (hb : Below w.heap.size w w3) (hs : w.heap.size + 2 ≤ w3.heap.size) :
    CPSt w (cpX w w3) old (((w3.alloc (Obj.cells #[Value.bool false] 4)).alloc (Obj.cells #[Value.func (Fn.func 46) #[] #[Value.pointer (some { block := w.heap.size, off := 0 }), Value.pointer (some { block := w3.heap.size, off := 0 })]] 59)).alloc
      (Obj.cells #[Value.func (Fn.func 47) #[] #[Value.pointer (some { block := w.heap.size + 1, off := 0 }), Value.pointer (some { block := w3.heap.size + 1, off := 0 }), Value.pointer (some { block := w3.heap.size + 1 + 1, off := 0 })]] 60)) A c p false where
  hb := ((hb.alloc (by omega) _).alloc (by simp; omega) _).alloc (by simp; omega) _
  gp := Nat.le_refl _
  gb := by simp only [cpX]; omega
  npb := by simp only [cpX]; omega
  npo := by simp only [cpX]; omega
  npn := by simp only [cpX]; omega
  npw := by simp only [cpX]; omega
  nbo := by simp only [cpX]; omega
  nbn := by simp only [cpX]; omega
  nbw := by simp only [cpX]; omega
  cp := (heap_alloc_old _ _ (by simp only [World.size_alloc, cpX]; omega)).trans ((heap_alloc_old _ _ (by simp only [World.size_alloc, cpX]; omega)).trans ((heap_alloc_old _ _ (by simp only [cpX]; omega)).trans cP))
  co := (heap_alloc_old _ _ (by simp only [World.size_alloc, cpX]; omega)).trans ((heap_alloc_old _ _ (by simp only [World.size_alloc, cpX]; omega)).trans ((heap_alloc_old _ _ (by simp only [cpX]; omega)).trans cO))
  cb := (heap_alloc_old _ _ (by simp only [World.size_alloc, cpX]; omega)).trans ((heap_alloc_old _ _ (by simp only [World.size_alloc, cpX]; omega)).trans (heap_alloc_last _ _))
  cn := (heap_alloc_old _ _ (by simp only [World.size_alloc, cpX]; omega)).trans (by have h := heap_alloc_last (w3.alloc (Obj.cells #[Value.bool false] 4)) (Obj.cells #[Value.func (Fn.func 46) #[] #[Value.pointer (some { block := w.heap.size, off := 0 }), Value.pointer (some { block := w3.heap.size, off := 0 })]] 59); rw [World.size_alloc] at h; exact h)
  cw := by
    have h := fun o1 o2 o3 => heap_alloc_last ((w3.alloc o1).alloc o2) o3
    simp only [World.size_alloc] at h
    exact h _ _ _
  rd := hr
  le := hc
set_option maxHeartbeats 4000000 in
set_option maxRecDepth 100000 in
theorem chkproof_main (m n : Nat) (A : Option Addr) (c : Nat) (p : List ByteArray) (old root : ByteArray) (w : World) (hr : Kd.C Kd.string w A p.length p) (hc : p.length ≤ c)
    (h1 : 1 ≤ m) (h2 : m ≤ n) (h3 : n ≤ 1099511627776) (hw1 : wholeB p = true) (hw2 : wholeB [old, root] = true) (r : Int)
    (hfin : r = if (Hs.walk old m n true p).2.2.2 = true ∨ (Hs.walk old m n true p).2.2.1 ≠ [] ∨ (Hs.walk old m n true p).1 ≠ old ∨ (Hs.walk old m n true p).2.1 ≠ root then 9 else 0) :
    Calls Try.prog 27 #[.int .i64 m, .int .i64 n, .slice A p.length c, .string old, .string root] w fun e w' => e = .returned (.int .i64 r) ∧ Below w.heap.size w w' := by
  have HR := Lib.hid hr
  have HC := Lib.hid hc
  have HW1 := Lib.hid hw1
  have HW2 := Lib.hid hw2
  have HF := Lib.hid hfin
  clear hr hc hw1 hw2 hfin
  have f1 : ¬ (m : Int) < 1 := by omega
  have f2 : ¬ (m : Int) > (n : Int) := by omega
  have f3 : ¬ (n : Int) > 1099511627776 := by omega
  go_enter Try.func27, Try.ntmps27
  go_wp2_with fail
  have hb0 : Below w.heap.size w ((w.alloc (Obj.cells #[Value.slice A p.length c] 22)).alloc (Obj.cells #[Value.string old] 9)) := ((Below.refl _ _).alloc (Nat.le_refl _) _).alloc (by simp) _
  refine (hash_whole.calls A c p true _ (Kd.C_below HR.out hb0) HC.out (congrArg some HW1.out)).mono ?_
  rintro e w1 ⟨rfl, hb1⟩
  have cP : Hid (w1.heap[w.heap.size]? = some (.cells #[.slice A p.length c] 22 (0, 0))) := Lib.hid ((hb1.block _ (by simp; omega)).trans ((heap_alloc_old _ _ (by simp)).trans (heap_alloc_last w _)))
  have cO : Hid (w1.heap[w.heap.size + 1]? = some (.cells #[.string old] 9 (0, 0))) := Lib.hid ((hb1.block _ (by simp)).trans (by have h := heap_alloc_last (w.alloc (Obj.cells #[Value.slice A p.length c] 22)) (Obj.cells #[Value.string old] 9); rw [World.size_alloc] at h; exact h))
  have HB1 := Lib.hid (below_then hb0 hb0.size hb1)
  have hs1 : w.heap.size + 2 ≤ w1.heap.size := by have := hb1.size; simp at this; omega
  have kP1 := cell_of_one cP.out
  have kO1 := cell_of_one cO.out
  clear hb0 hb1
  go_wp2_with (first | ((with_reducible refine gate_dst (N := 33) rfl ?_); (try (refine gate_guard (by rfl) ?_; dsimp only)); refine Kd.R_lit Kd.string _ 9 ?hg (N := 33) ?hd (xs := ([old, root] : List ByteArray)) (inner := [.string old, .string root]) (ok := fun _ => True) (okp := fun _ => True) ?hr ?hp (fun _ hk => hk) trivial (Below.refl _ _) (Nat.le_refl _) (by simp) ?_; (case hd => rfl); (case hg => rfl); (case hr => first | (go_simp; done) | (go_simp; rfl)); (case hp => exact (Reps.one (show Kd.M Kd.string _ _ _ old [.string old] from rfl) (Reps.one (show Kd.M Kd.string _ _ _ root [.string root] from rfl) (Reps.none _ _)))); intro v2 w2 ho2 hb2 hg_ hnew_; clear hg_ hnew_; obtain ⟨A2, c2, rfl⟩ := Kd.R_slice ho2; have HO2 := Lib.hid ho2; have HB2 := Lib.hid hb2; clear ho2 hb2) | fail)
  refine (hash_whole.calls A2 c2 [old, root] true _ (Kd.R_reads' HO2.out).2.2 (Kd.R_reads' HO2.out).2.1 (congrArg some HW2.out)).mono ?_
  rintro e w3 ⟨rfl, hb3⟩
  have hb13 := below_then HB2.out HB2.out.size hb3
  have cP3 : Hid (w3.heap[w.heap.size]? = some (.cells #[.slice A p.length c] 22 (0, 0))) := Lib.hid ((hb13.block _ (by omega)).trans cP.out)
  have cO3 : Hid (w3.heap[w.heap.size + 1]? = some (.cells #[.string old] 9 (0, 0))) := Lib.hid ((hb13.block _ (by omega)).trans cO.out)
  have HB3 := Lib.hid (below_then HB1.out HB1.out.size hb13)
  have hs3 : w.heap.size + 2 ≤ w3.heap.size := by have := hb13.size; omega
  have kP3 := cell_of_one cP3.out
  have kO3 := cell_of_one cO3.out
  clear hb13 hb3 kP1 kO1 cP cO HB1 HO2 HB2
  go_wp2_with fail
  have HST := Lib.hid (cpst_start w w3 A c p old HR.out HC.out cP3.out cO3.out HB3.out hs3)
  clear kP3 kO3 cP3 cO3
  refine (walk_calls w (cpX w w3) old (wholeB_small _ HW2.out old (by simp)) n m true p false _ A c h1 h2 h3 (wholeB_small _ HW1.out) HST.out).mono ?_
  rintro e w4 ⟨A4, c4, rfl, hs4⟩
  obtain ⟨q, hq⟩ : ∃ q, q = Hs.walk old m n true p := ⟨_, rfl⟩
  rw [← hq] at hs4 ⊢
  have HQ := Lib.hid hq
  have HS4 := Lib.hid hs4
  clear hq hs4 HST
  obtain ⟨qa, qb, ql, qx⟩ := q
  have kB := cell_of_one HS4.out.cb
  have kP := cell_of_one HS4.out.cp
  have kO := cell_of_one HS4.out.co
  simp only [cpX, Bool.false_or] at kB kP kO
  dsimp only
  have hf := HF.out
  rw [← HQ.out] at hf
  dsimp only at hf
  have HF2 := Lib.hid hf
  clear hf HF
  cases qx with
  | true =>
    go_wp2
    go_ret
    exact ⟨by rw [HF2.out, if_pos (.inl trivial)]; rfl, HS4.out.hb⟩
  | false =>
    cases ql with
    | cons s t =>
      have hpos : (0 : Int) < ((s :: t).length : Int) := by simp
      generalize hL : (s :: t).length = L at *
      have HL := Lib.hid hL
      clear hL
      go_wp2
      go_ret
      exact ⟨by rw [HF2.out, if_pos (.inr (.inl (by simp)))]; rfl, HS4.out.hb⟩
    | nil =>
      simp only [List.length_nil] at kP
      by_cases ha : qa = old
      · subst ha
        by_cases hb : qb = root
        · subst hb
          have e1 : (qa.toList != qa.toList) = false := by simp
          have e2 : (qb.toList != qb.toList) = false := by simp
          go_wp2
          go_ret
          exact ⟨by rw [HF2.out, if_neg (by simp)]; rfl, HS4.out.hb⟩
        · have e1 : (qa.toList != qa.toList) = false := by simp
          have e2 : (qb.toList != root.toList) = true := bne_iff_ne.2 (fun e => hb (toList_inj e))
          have e3 : (qb.toList == root.toList) = false := beq_eq_false_iff_ne.2 (fun e => hb (toList_inj e))
          have HBN := Lib.hid hb
          clear hb
          go_wp2
          go_ret
          exact ⟨by rw [HF2.out, if_pos (.inr (.inr (.inr HBN.out)))]; rfl, HS4.out.hb⟩
      · have e1 : (qa.toList != old.toList) = true := bne_iff_ne.2 (fun e => ha (toList_inj e))
        have e3 : (qa.toList == old.toList) = false := beq_eq_false_iff_ne.2 (fun e => ha (toList_inj e))
        have HAN := Lib.hid ha
        clear ha
        go_wp2
        go_ret
        exact ⟨by rw [HF2.out, if_pos (.inr (.inr (.inl HAN.out)))]; rfl, HS4.out.hb⟩
theorem checkProof_range (m n : Int) (p : List ByteArray) (old root : ByteArray) (h : m < 1 ∨ m > n ∨ n > 1099511627776) : Hs.checkProof m n p old root = 8 := by
  unfold Hs.checkProof
  rw [if_pos h]
theorem wholeL_eq (l : List ByteArray) : Hs.wholeL l = wholeB l := rfl
theorem checkProof_whole (m n : Int) (p : List ByteArray) (old root : ByteArray) (h : ¬ (m < 1 ∨ m > n ∨ n > 1099511627776)) (hw : (wholeB p && wholeB [old, root]) = false) : Hs.checkProof m n p old root = 9 := by
  unfold Hs.checkProof
  rw [if_neg h, wholeL_eq, wholeL_eq, if_pos hw]
set_option maxHeartbeats 4000000 in
set_option maxRecDepth 100000 in
theorem hash_CheckProof.calls (a0 a1 : Int) (A2 : Option Addr) (c2 : Nat) (l2 : List ByteArray) (a3 a4 : ByteArray) (r : Int) (w : World) (hr2 : Kd.C Kd.string w A2 l2.length l2) (hc2 : l2.length ≤ c2) (h : hash_CheckProof.f a0 a1 l2 a3 a4 = some r) :
    Calls Try.prog 27 #[.int .i64 a0, .int .i64 a1, .slice A2 l2.length c2, .string a3, .string a4] w fun e w' => e = .returned (.int .i64 r) ∧ Below w.heap.size w w' := by
  obtain rfl := Option.some.inj h
  clear h
  have HR := Lib.hid hr2
  have HC := Lib.hid hc2
  clear hr2 hc2
  have hb0 : Below w.heap.size w ((w.alloc (Obj.cells #[Value.slice A2 l2.length c2] 22)).alloc (Obj.cells #[Value.string a3] 9)) := ((Below.refl _ _).alloc (Nat.le_refl _) _).alloc (by simp) _
  have HB0 := Lib.hid hb0
  clear hb0
  by_cases h1 : a0 < 1
  · have HV := Lib.hid (checkProof_range a0 a1 l2 a3 a4 (.inl h1))
    go_enter Try.func27, Try.ntmps27
    go_wp2
    go_ret
    exact ⟨by rw [HV.out]; rfl, HB0.out⟩
  by_cases h2 : a0 > a1
  · have HV := Lib.hid (checkProof_range a0 a1 l2 a3 a4 (.inr (.inl h2)))
    go_enter Try.func27, Try.ntmps27
    go_wp2
    go_ret
    exact ⟨by rw [HV.out]; rfl, HB0.out⟩
  by_cases h3 : a1 > 1099511627776
  · have HV := Lib.hid (checkProof_range a0 a1 l2 a3 a4 (.inr (.inr h3)))
    go_enter Try.func27, Try.ntmps27
    go_wp2
    go_ret
    exact ⟨by rw [HV.out]; rfl, HB0.out⟩
  have hnr : ¬ (a0 < 1 ∨ a0 > a1 ∨ a1 > 1099511627776) := fun h => h.elim h1 (fun h => h.elim h2 h3)
  by_cases hw1 : wholeB l2 = true
  · by_cases hw2 : wholeB [a3, a4] = true
    · obtain ⟨m, rfl⟩ := Int.eq_ofNat_of_zero_le (show 0 ≤ a0 by omega)
      obtain ⟨n, rfl⟩ := Int.eq_ofNat_of_zero_le (show 0 ≤ a1 by omega)
      refine chkproof_main m n A2 c2 l2 a3 a4 w HR.out HC.out (by omega) (by omega) (by omega) hw1 hw2 _ ?_
      unfold Hs.checkProof
      rw [if_neg hnr, wholeL_eq, wholeL_eq, hw1, hw2]
      rfl
    · have HV := Lib.hid (checkProof_whole a0 a1 l2 a3 a4 hnr (by rw [Bool.and_eq_false_iff]; exact .inr (by simpa using hw2)))
      have HW1 := Lib.hid hw1
      have HW2 := Lib.hid (show wholeB [a3, a4] = false by simpa using hw2)
      clear hw1 hw2 hnr
      go_enter Try.func27, Try.ntmps27
      go_wp2_with fail
      refine (hash_whole.calls A2 c2 l2 true _ (Kd.C_below HR.out HB0.out) HC.out (congrArg some HW1.out)).mono ?_
      rintro e w1 ⟨rfl, hb1⟩
      have cO : Hid (w1.heap[w.heap.size + 1]? = some (.cells #[.string a3] 9 (0, 0))) := Lib.hid ((hb1.block _ (by simp)).trans (by have h := heap_alloc_last (w.alloc (Obj.cells #[Value.slice A2 l2.length c2] 22)) (Obj.cells #[Value.string a3] 9); rw [World.size_alloc] at h; exact h))
      have HB1 := Lib.hid (below_then HB0.out HB0.out.size hb1)
      have kO1 := cell_of_one cO.out
      clear hb1
      go_wp2_with (first | ((with_reducible refine gate_dst (N := 33) rfl ?_); (try (refine gate_guard (by rfl) ?_; dsimp only)); refine Kd.R_lit Kd.string _ 9 ?hg (N := 33) ?hd (xs := ([a3, a4] : List ByteArray)) (inner := [.string a3, .string a4]) (ok := fun _ => True) (okp := fun _ => True) ?hr ?hp (fun _ hk => hk) trivial (Below.refl _ _) (Nat.le_refl _) (by simp) ?_; (case hd => rfl); (case hg => rfl); (case hr => first | (go_simp; done) | (go_simp; rfl)); (case hp => exact (Reps.one (show Kd.M Kd.string _ _ _ a3 [.string a3] from rfl) (Reps.one (show Kd.M Kd.string _ _ _ a4 [.string a4] from rfl) (Reps.none _ _)))); intro v2 w2 ho2 hb2 hg_ hnew_; clear hg_ hnew_; obtain ⟨A3, c3, rfl⟩ := Kd.R_slice ho2; have HO2 := Lib.hid ho2; have HB2 := Lib.hid hb2; clear ho2 hb2) | fail)
      refine (hash_whole.calls A3 c3 [a3, a4] false _ (Kd.R_reads' HO2.out).2.2 (Kd.R_reads' HO2.out).2.1 (congrArg some HW2.out)).mono ?_
      rintro e w3 ⟨rfl, hb3⟩
      have HB3 := Lib.hid (below_then HB1.out HB1.out.size (below_then HB2.out HB2.out.size hb3))
      clear hb3
      go_wp2
      go_ret
      exact ⟨by rw [HV.out]; rfl, HB3.out⟩
  · have HV := Lib.hid (checkProof_whole a0 a1 l2 a3 a4 hnr (by rw [Bool.and_eq_false_iff]; exact .inl (by simpa using hw1)))
    have HW1 := Lib.hid (show wholeB l2 = false by simpa using hw1)
    clear hw1 hnr
    go_enter Try.func27, Try.ntmps27
    go_wp2_with fail
    refine (hash_whole.calls A2 c2 l2 false _ (Kd.C_below HR.out HB0.out) HC.out (congrArg some HW1.out)).mono ?_
    rintro e w1 ⟨rfl, hb1⟩
    have HB1 := Lib.hid (below_then HB0.out HB0.out.size hb1)
    clear hb1
    go_wp2
    go_ret
    exact ⟨by rw [HV.out]; rfl, HB1.out⟩
end Go.Proofs.Ytkbbdbnjplcjdaa
end
section
/-
  The program's Root, Path, Proof, sides, inputs, CheckPath, as the plain text Hs has them.
-/
namespace Go.Proofs.Ytkbbdbnjplcjdaa.F
open Go.RowKit Go.Proofs.Ytkbbdbnjplcjdaa Go.Proofs.YtkbbdbnjplcjdaaW.PrintWords Go.Proofs.YtkbbdbnjplcjdaaW.PrintLast Go.Proofs.YtkbbdbnjplcjdaaW.PrintMore
set_option linter.unusedVariables false
set_option linter.unusedSimpArgs false
def smalls (l : List ByteArray) : Prop := ∀ x ∈ l, small x
theorem smalls_take {l : List ByteArray} (h : smalls l) (k : Nat) : smalls (l.take k) := fun x hx => h x (List.mem_of_mem_take hx)
theorem smalls_drop {l : List ByteArray} (h : smalls l) (k : Nat) : smalls (l.drop k) := fun x hx => h x (List.mem_of_mem_drop hx)
theorem small_32 {x : ByteArray} (h : x.size = 32) : small x := by unfold small; omega
theorem smalls_32 {l : List ByteArray} (h : ∀ x ∈ l, x.size = 32) : smalls l := fun x hx => small_32 (h x hx)
theorem small_root (l : List ByteArray) (h : smalls l) : small (Hs.root l) := by
  by_cases h2 : 2 ≤ l.length
  · rw [Hs.root_many l h2]; exact small_node _ _
  · cases l with
    | nil => rw [Hs.root_nil]; exact small_32 (Sha.sum_size _)
    | cons x r => cases r with
      | nil => rw [Hs.root_one]; exact h x (by simp)
      | cons y r => simp at h2
theorem root_ev (n : Nat) : ∀ (l : List ByteArray), l.length = n → n ≤ 1152921504606846976 → smalls l → Ev (fun k => hash_Root.f k l) (Hs.root l) := by
  induction n using Nat.strongRecOn with
  | ind n ih =>
    intro l hl hn hs
    by_cases h2 : 2 ≤ n
    · have hc := Hs.cut_lt n h2
      have hp := Hs.cut_pos n
      have e1 := ih (Hs.cut n) hc (l.take (Hs.cut n)) (by rw [← hl]; exact Hs.take_len l (by omega)) (by omega) (smalls_take hs _)
      have e2 := ih (n - Hs.cut n) (by omega) (l.drop (Hs.cut n)) (by rw [List.length_drop, hl]) (by omega) (smalls_drop hs _)
      refine Ev.step (f := fun k => (hash_Root.f k (l.take (Hs.cut n))).bind fun t => (hash_Root.f k (l.drop (Hs.cut n))).bind fun t' => (hash_Node.f t t').bind fun t'' => some t'') (fun k => ?_) (Ev.bind e1 (Ev.bind e2 (Ev.congr (fun _ => ?_) (Ev.now _))))
      · simp only [hash_Root.f]
        rw [hl, if_neg (by omega), if_neg (by omega), cut_some n h2 (by omega), Option.bind_some, if_pos (by omega), if_pos (by omega), Int.toNat_natCast]
      · rw [Hs.root_many l (by omega), hl, node_small _ _ (small_root _ (smalls_take hs _)) (small_root _ (smalls_drop hs _))]
        rfl
    · refine Ev.step (f := fun _ => some (Hs.root l)) (fun k => ?_) (Ev.now _)
      simp only [hash_Root.f]
      cases l with
      | nil =>
        rw [if_pos (show (([] : List ByteArray).length : Int) = 0 from rfl), sum_ok [] (by simp) (by simp), Hs.root_nil]
        rfl
      | cons x r => cases r with
        | nil =>
          rw [if_neg (show ¬ (([x] : List ByteArray).length : Int) = 0 by simp), if_pos (show (([x] : List ByteArray).length : Int) = 1 from rfl), if_pos (show 0 < (([x] : List ByteArray).length : Int) by simp), Hs.root_one]
          rfl
        | cons y r => simp at hl; omega
theorem path_from (n : Nat) : ∀ (l : List ByteArray) (i : Nat) (acc : List ByteArray), l.length = n → 1 ≤ n → i < n → n ≤ 1152921504606846976 → smalls l → acc.length + (Hs.sides i n).length ≤ 4398046511104 →
    Ev (fun k => hash_Path.l0 k l (i : Int) acc) (Hs.path l i ++ acc.reverse, 0) := by
  induction n using Nat.strongRecOn with
  | ind n ih =>
    intro l i acc hl h1 hi hn hs ha
    by_cases h2 : 2 ≤ n
    · have hc := Hs.cut_lt n h2
      have hp := Hs.cut_pos n
      by_cases hk : i < Hs.cut n
      · rw [Hs.sides_left i n h2 hk, List.length_append, List.length_singleton] at ha
        have e0 := root_ev (n - Hs.cut n) (l.drop (Hs.cut n)) (by rw [List.length_drop, hl]) (by omega) (smalls_drop hs _)
        have e1 := ih (Hs.cut n) hc (l.take (Hs.cut n)) i (acc ++ [Hs.root (l.drop (Hs.cut n))]) (by rw [← hl]; exact Hs.take_len l (by omega)) hp hk (by omega) (smalls_take hs _) (by rw [List.length_append, List.length_singleton]; omega)
        rw [Hs.path_left l i (by omega) (by rw [hl]; exact hk), hl]
        refine Ev.step (f := fun k => (hash_Root.f k (l.drop (Hs.cut n))).bind fun t => if acc.length < 8796093022208 then hash_Path.l0 k (l.take (Hs.cut n)) (i : Int) (acc ++ [t]) else none) (fun k => ?_) (Ev.bind e0 (Ev.congr (fun k => if_pos (by omega)) (by simpa using e1)))
        simp only [hash_Path.l0]
        rw [hl, if_pos (by omega), cut_some n h2 (by omega), Option.bind_some, if_pos (by omega), if_pos (by omega), if_pos (by omega), Int.toNat_natCast]
      · rw [Hs.sides_right i n h2 (by omega), List.length_append, List.length_singleton] at ha
        have e0 := root_ev (Hs.cut n) (l.take (Hs.cut n)) (by rw [← hl]; exact Hs.take_len l (by omega)) (by omega) (smalls_take hs _)
        have e1 := ih (n - Hs.cut n) (by omega) (l.drop (Hs.cut n)) (i - Hs.cut n) (acc ++ [Hs.root (l.take (Hs.cut n))]) (by rw [List.length_drop, hl]) (by omega) (by omega) (by omega) (smalls_drop hs _) (by rw [List.length_append, List.length_singleton]; omega)
        rw [Hs.path_right l i (by omega) (by rw [hl]; omega), hl]
        refine Ev.step (f := fun k => (hash_Root.f k (l.take (Hs.cut n))).bind fun t => if acc.length < 8796093022208 then hash_Path.l0 k (l.drop (Hs.cut n)) (((i - Hs.cut n : Nat) : Int)) (acc ++ [t]) else none) (fun k => ?_) (Ev.bind e0 (Ev.congr (fun k => if_pos (by omega)) (by simpa using e1)))
        simp only [hash_Path.l0]
        rw [hl, if_pos (by omega), cut_some n h2 (by omega), Option.bind_some, if_neg (by omega), if_pos (by omega), if_pos (by omega), Int.toNat_natCast, show wrap64 ((i : Int) - (Hs.cut n : Int)) = ((i - Hs.cut n : Nat) : Int) by unfold wrap64; omega]
    · rw [Hs.path_few l i (by omega), List.nil_append]
      refine Ev.step (f := fun k => (slices_Reverse_string_string.f k acc).bind fun t => some (t, 0)) (fun k => ?_) (Ev.bind (f := fun _ t => some (t, 0)) (rev_string acc (by omega)) (Ev.now _))
      simp only [hash_Path.l0]
      rw [hl, if_neg (by omega)]
theorem sides_le (n : Nat) : ∀ i e, n ≤ 2 ^ e → (Hs.sides i n).length ≤ e := by
  induction n using Nat.strongRecOn with
  | ind n ih =>
    intro i e he
    by_cases h2 : 2 ≤ n
    · have hc := Hs.cut_lt n h2
      have hp := Hs.cut_pos n
      have hc2 := Hs.cut_two n h2
      cases e with
      | zero => simp at he; omega
      | succ e =>
        have hle : Hs.cut n ≤ 2 ^ e := by
          unfold Hs.cut at hc ⊢
          rcases Nat.lt_or_ge e (bitLen (n - 1) - 1) with h | h
          · have : 2 ^ (e + 1) ≤ 2 ^ (bitLen (n - 1) - 1) := Nat.pow_le_pow_right (by omega) (by omega)
            omega
          · exact Nat.pow_le_pow_right (by omega) h
        by_cases hk : i < Hs.cut n
        · rw [Hs.sides_left i n h2 hk, List.length_append, List.length_singleton]
          have := ih (Hs.cut n) hc i e hle
          omega
        · rw [Hs.sides_right i n h2 (by omega), List.length_append, List.length_singleton]
          have := ih (n - Hs.cut n) (by omega) (i - Hs.cut n) e (by omega)
          omega
    · rw [Hs.sides_few i n (by omega)]; simp
theorem sides_60 (i n : Nat) (h : n ≤ 1152921504606846976) : (Hs.sides i n).length ≤ 60 := sides_le n i 60 h
/-- a path, or that there is none -/
def pathR (l : List ByteArray) (i : Int) : List ByteArray × Int := if 0 ≤ i ∧ i < (l.length : Int) then (Hs.path l i.toNat, 0) else ([], 8)
theorem path_ev (l : List ByteArray) (i : Int) (hn : l.length ≤ 1152921504606846976) (hs : smalls l) : Ev (fun k => hash_Path.f k l i) (pathR l i) := by
  unfold pathR
  by_cases h : 0 ≤ i ∧ i < (l.length : Int)
  · rw [if_pos h]
    obtain ⟨j, rfl⟩ := Int.eq_ofNat_of_zero_le h.1
    have e := path_from l.length l j [] rfl (by omega) (by omega) hn hs (by have := sides_60 j l.length hn; simp; omega)
    rw [List.reverse_nil, List.append_nil] at e
    refine Ev.congr (f := fun k => hash_Path.j0 k l (j : Int) false) (fun k => ?_) (Ev.step (fun k => ?_) e)
    · unfold hash_Path.f
      rw [if_neg (by omega), decide_eq_false (by omega)]
    · simp only [hash_Path.j0]
      rfl
  · rw [if_neg h]
    refine Ev.congr (f := fun k => hash_Path.j0 k l i true) (fun k => ?_) (Ev.step (f := fun _ => some ([], 8)) (fun k => ?_) (Ev.now _))
    · unfold hash_Path.f
      by_cases h0 : i < 0
      · rw [if_pos h0]
      · rw [if_neg h0, decide_eq_true (by omega)]
    · simp only [hash_Path.j0]
      rfl
theorem cut_half (n e : Nat) (h2 : 2 ≤ n) (he : n ≤ 2 ^ (e + 1)) : Hs.cut n ≤ 2 ^ e ∧ n - Hs.cut n ≤ 2 ^ e := by
  have hc := Hs.cut_lt n h2
  have hc2 := Hs.cut_two n h2
  have hle : Hs.cut n ≤ 2 ^ e := by
    unfold Hs.cut at hc ⊢
    rcases Nat.lt_or_ge e (bitLen (n - 1) - 1) with h | h
    · have : 2 ^ (e + 1) ≤ 2 ^ (bitLen (n - 1) - 1) := Nat.pow_le_pow_right (by omega) (by omega)
      omega
    · exact Nat.pow_le_pow_right (by omega) h
  omega
theorem proof_from (n : Nat) : ∀ (e : Nat) (l : List ByteArray) (m : Nat) (acc : List ByteArray) (own : Bool), l.length = n → 1 ≤ m → m ≤ n → n ≤ 2 ^ e → n ≤ 1152921504606846976 → smalls l → acc.length + e ≤ 200 →
    Ev (fun k => hash_Proof.l0 k l (m : Int) acc own) (Hs.sub m l own ++ acc.reverse, 0) := by
  induction n using Nat.strongRecOn with
  | ind n ih =>
    intro e l m acc own hl h1 hm he hn hs ha
    by_cases hmn : m = n
    · subst hmn
      subst hl
      rw [Hs.sub_all]
      cases own with
      | true =>
        refine Ev.step (f := fun k => (slices_Reverse_string_string.f k acc).bind fun t => some (t, 0)) (fun k => ?_) (Ev.bind (f := fun _ t => some (t, 0)) (rev_string acc (by omega)) (Ev.now _))
        simp only [hash_Proof.l0]
        rw [if_neg (by omega), if_pos trivial]
      | false =>
        have e0 := root_ev l.length l rfl hn hs
        refine Ev.step (f := fun k => (hash_Root.f k l).bind fun t => if acc.length < 8796093022208 then ((slices_Reverse_string_string.f k (acc ++ [t])).bind fun t' => some (t', 0)) else none) (fun k => ?_) (Ev.bind e0 (Ev.congr (fun k => if_pos (by omega)) (Ev.bind (f := fun _ t => some (t, 0)) (rev_string (acc ++ [Hs.root l]) (by simp; omega)) ?_)))
        · simp only [hash_Proof.l0]
          rw [if_neg (by omega), if_neg (by simp)]
        · rw [List.reverse_append]
          exact Ev.now _
    · have h2 : 2 ≤ n := by omega
      have hc := Hs.cut_lt n h2
      have hp := Hs.cut_pos n
      cases e with
      | zero => simp at he; omega
      | succ e =>
        obtain ⟨he1, he2⟩ := cut_half n e h2 he
        by_cases hk : m ≤ Hs.cut n
        · have e0 := root_ev (n - Hs.cut n) (l.drop (Hs.cut n)) (by rw [List.length_drop, hl]) (by omega) (smalls_drop hs _)
          have e1 := ih (Hs.cut n) hc e (l.take (Hs.cut n)) m (acc ++ [Hs.root (l.drop (Hs.cut n))]) own (by rw [← hl]; exact Hs.take_len l (by omega)) h1 hk he1 (by omega) (smalls_take hs _) (by rw [List.length_append, List.length_singleton]; omega)
          rw [Hs.sub_left m l own (by omega) (by omega) (by rw [hl]; exact hk), hl]
          refine Ev.step (f := fun k => (hash_Root.f k (l.drop (Hs.cut n))).bind fun t => if acc.length < 8796093022208 then hash_Proof.l0 k (l.take (Hs.cut n)) (m : Int) (acc ++ [t]) own else none) (fun k => ?_) (Ev.bind e0 (Ev.congr (fun k => if_pos (by omega)) (by simpa using e1)))
          simp only [hash_Proof.l0]
          rw [hl, if_pos (by omega), cut_some n h2 (by omega), Option.bind_some, if_pos (by omega), if_pos (by omega), if_pos (by omega), Int.toNat_natCast]
        · have e0 := root_ev (Hs.cut n) (l.take (Hs.cut n)) (by rw [← hl]; exact Hs.take_len l (by omega)) (by omega) (smalls_take hs _)
          have e1 := ih (n - Hs.cut n) (by omega) e (l.drop (Hs.cut n)) (m - Hs.cut n) (acc ++ [Hs.root (l.take (Hs.cut n))]) false (by rw [List.length_drop, hl]) (by omega) (by omega) he2 (by omega) (smalls_drop hs _) (by rw [List.length_append, List.length_singleton]; omega)
          rw [Hs.sub_right m l own (by omega) (by omega) (by rw [hl]; omega), hl]
          refine Ev.step (f := fun k => (hash_Root.f k (l.take (Hs.cut n))).bind fun t => if acc.length < 8796093022208 then hash_Proof.l0 k (l.drop (Hs.cut n)) (((m - Hs.cut n : Nat) : Int)) (acc ++ [t]) false else none) (fun k => ?_) (Ev.bind e0 (Ev.congr (fun k => if_pos (by omega)) (by simpa using e1)))
          simp only [hash_Proof.l0]
          rw [hl, if_pos (by omega), cut_some n h2 (by omega), Option.bind_some, if_neg (by omega), if_pos (by omega), if_pos (by omega), Int.toNat_natCast, show wrap64 ((m : Int) - (Hs.cut n : Int)) = ((m - Hs.cut n : Nat) : Int) by unfold wrap64; omega]
/-- a beginning's proof, or that there is none -/
def proofR (l : List ByteArray) (m : Int) : List ByteArray × Int := if 1 ≤ m ∧ m ≤ (l.length : Int) then (Hs.sub m.toNat l true, 0) else ([], 8)
theorem proof_ev (l : List ByteArray) (m : Int) (hn : l.length ≤ 1152921504606846976) (hs : smalls l) : Ev (fun k => hash_Proof.f k l m) (proofR l m) := by
  unfold proofR
  by_cases h : 1 ≤ m ∧ m ≤ (l.length : Int)
  · rw [if_pos h]
    obtain ⟨j, rfl⟩ := Int.eq_ofNat_of_zero_le (show 0 ≤ m by omega)
    have e := proof_from l.length 60 l j [] true rfl (by omega) (by omega) hn hn hs (by simp)
    rw [List.reverse_nil, List.append_nil] at e
    refine Ev.congr (f := fun k => hash_Proof.j0 k l (j : Int) false) (fun k => ?_) (Ev.step (fun k => ?_) e)
    · unfold hash_Proof.f
      rw [if_neg (by omega), decide_eq_false (by omega)]
    · simp only [hash_Proof.j0]
      rfl
  · rw [if_neg h]
    refine Ev.congr (f := fun k => hash_Proof.j0 k l m true) (fun k => ?_) (Ev.step (f := fun _ => some ([], 8)) (fun k => ?_) (Ev.now _))
    · unfold hash_Proof.f
      by_cases h0 : m < 1
      · rw [if_pos h0]
      · rw [if_neg h0, decide_eq_true (by omega)]
    · simp only [hash_Proof.j0]
      rfl
theorem sides_from (n : Nat) : ∀ (e i : Nat) (acc : List Bool), i < n → n ≤ 2 ^ e → n ≤ 1152921504606846976 → acc.length + e ≤ 200 →
    Ev (fun k => hash_sides.l0 k (i : Int) (n : Int) acc) (Hs.sides i n ++ acc.reverse) := by
  induction n using Nat.strongRecOn with
  | ind n ih =>
    intro e i acc hi he hn ha
    by_cases h2 : 2 ≤ n
    · have hc := Hs.cut_lt n h2
      have hp := Hs.cut_pos n
      cases e with
      | zero => simp at he; omega
      | succ e =>
        obtain ⟨he1, he2⟩ := cut_half n e h2 he
        by_cases hk : i < Hs.cut n
        · have e1 := ih (Hs.cut n) hc e i (acc ++ [true]) hk he1 (by omega) (by rw [List.length_append, List.length_singleton]; omega)
          rw [Hs.sides_left i n h2 hk]
          refine Ev.step (f := fun k => hash_sides.l0 k (i : Int) (Hs.cut n : Int) (acc ++ [true])) (fun k => ?_) (by simpa using e1)
          simp only [hash_sides.l0]
          rw [if_pos (by omega), cut_some n h2 (by omega), Option.bind_some, if_pos (by omega), Option.bind_some, if_pos (by omega), decide_eq_true (by omega)]
        · have e1 := ih (n - Hs.cut n) (by omega) e (i - Hs.cut n) (acc ++ [false]) (by omega) he2 (by omega) (by rw [List.length_append, List.length_singleton]; omega)
          rw [Hs.sides_right i n h2 (by omega)]
          refine Ev.step (f := fun k => hash_sides.l0 k (((i - Hs.cut n : Nat) : Int)) (((n - Hs.cut n : Nat) : Int)) (acc ++ [false])) (fun k => ?_) (by simpa using e1)
          simp only [hash_sides.l0]
          rw [if_pos (by omega), cut_some n h2 (by omega), Option.bind_some, if_pos (by omega), Option.bind_some, if_neg (by omega), decide_eq_false (by omega), show wrap64 ((i : Int) - (Hs.cut n : Int)) = ((i - Hs.cut n : Nat) : Int) by unfold wrap64; omega, show wrap64 ((n : Int) - (Hs.cut n : Int)) = ((n - Hs.cut n : Nat) : Int) by unfold wrap64; omega]
    · rw [Hs.sides_few i n (by omega), List.nil_append]
      refine Ev.step (f := fun k => (slices_Reverse_bool_bool.f k acc).bind fun t => some t) (fun k => ?_) (Ev.bind (f := fun _ t => some t) (rev_bool acc (by omega)) (Ev.now _))
      simp only [hash_sides.l0]
      rw [if_neg (by omega)]
theorem sides_ev (i n : Nat) (hi : i < n) (hn : n ≤ 1152921504606846976) : Ev (fun k => hash_sides.f k (i : Int) (n : Int)) (Hs.sides i n) := by
  have := sides_from n 60 i [] hi hn hn (by simp)
  simpa [hash_sides.f] using this
theorem rdOf_n (l : List ByteArray) (i : Nat) : rdOf ByteArray.empty l (i : Int) = l.getD i ByteArray.empty := by simp [rdOf]
theorem rdOf_b (l : List Bool) (i : Nat) : rdOf false l (i : Int) = l.getD i false := by simp [rdOf]
theorem small_sum (l : List Int) : small (Sha.sum l) := small_32 (Sha.sum_size l)
theorem step_length (b : Bool) (x p : ByteArray) (hx : small x) (hp : small p) : (Hs.step b x p).length ≤ 140737488354000 := by
  unfold small at hx hp
  unfold Hs.step
  cases b
  · rw [if_neg (by simp), joined_length]; omega
  · rw [if_pos rfl, joined_length]; omega
theorem inputs_from (bs : List Bool) (ps : List ByteArray) (hl : ps.length = bs.length) (hb : bs.length ≤ 1000) (hs : smalls ps) (d : Nat) : ∀ (i : Nat) (x : ByteArray) (acc : List (List Int)), i + d = bs.length → small x → acc.length ≤ i →
    Ev (fun k => hash_inputs.l0 k x ps acc bs (bs.length : Int) (i : Int)) (acc ++ Hs.inputs x (bs.drop i) (ps.drop i), Hs.climb x (bs.drop i) (ps.drop i)) := by
  induction d with
  | zero =>
    intro i x acc hi hx ha
    rw [List.drop_eq_nil_of_le (by omega), List.drop_eq_nil_of_le (by omega)]
    simp only [Hs.inputs, Hs.climb, List.append_nil]
    refine Ev.step (f := fun _ => some _) (fun k => ?_) (Ev.now _)
    simp only [hash_inputs.l0]
    rw [if_neg (by omega)]
  | succ d ih =>
    intro i x acc hi hx ha
    have h1 : i < bs.length := by omega
    have h2 : i < ps.length := by omega
    have hp : small ps[i] := hs _ (List.getElem_mem h2)
    have hsl := step_length bs[i] x ps[i] hx hp
    have e := ih (i + 1) (Sha.sum (Hs.step bs[i] x ps[i])) (acc ++ [Hs.step bs[i] x ps[i]]) (by omega) (small_sum _) (by rw [List.length_append, List.length_singleton]; omega)
    rw [List.drop_eq_getElem_cons h1, List.drop_eq_getElem_cons h2]
    simp only [Hs.inputs, Hs.climb, List.headD_cons, List.tail_cons]
    rw [List.append_assoc, List.singleton_append] at e
    refine Ev.step (fun k => ?_) e
    simp only [hash_inputs.l0]
    rw [if_pos (by omega), if_pos (by omega), if_pos (by omega), if_pos (by omega), rdOf_n, rdOf_b, List.getD_eq_getElem?_getD, List.getElem?_eq_getElem h2, List.getD_eq_getElem?_getD, List.getElem?_eq_getElem h1, Option.getD_some, Option.getD_some, joined_some _ _ (by unfold small at hx hp; omega), Option.bind_some]
    have hw : wrap64 ((i : Int) + 1) = ((i + 1 : Nat) : Int) := by unfold wrap64; omega
    cases hb' : bs[i] with
    | true =>
      rw [hb'] at hsl
      rw [if_pos rfl, joined_some _ _ (by unfold small at hx hp; omega), Option.bind_some, if_pos (by omega), sum_ok _ (joined_range _ _) (by have := step_length true x ps[i] hx hp; simp only [Hs.step, if_true] at this; omega), Option.bind_some, hw]
      rfl
    | false =>
      rw [hb'] at hsl
      rw [if_neg (by simp), if_pos (by omega), sum_ok _ (joined_range _ _) (by have := step_length false x ps[i] hx hp; simp only [Hs.step, Bool.false_eq_true, if_false] at this; omega), Option.bind_some, hw]
      rfl
theorem inputs_ev (x : ByteArray) (bs : List Bool) (ps : List ByteArray) (hl : ps.length = bs.length) (hb : bs.length ≤ 1000) (hs : smalls ps) (hx : small x) : Ev (fun k => hash_inputs.f k x bs ps) (Hs.inputs x bs ps, Hs.climb x bs ps) := by
  have := inputs_from bs ps hl hb hs bs.length 0 x [] (by omega) hx (by simp)
  simpa [hash_inputs.f] using this
def placed (i n : Int) : Bool := decide (1 ≤ n) && decide (n ≤ 1099511627776) && decide (0 ≤ i) && decide (i < n)
theorem placed_some (i n : Int) : hash_placed.f i n = some (placed i n) := by
  unfold hash_placed.f placed
  by_cases h1 : n ≥ 1
  · by_cases h2 : n ≤ 1099511627776
    · by_cases h3 : i ≥ 0
      · rw [if_pos h1, if_pos h2, if_pos h3]; simp [h1, h2, h3]
      · rw [if_pos h1, if_pos h2, if_neg h3]; simp; omega
    · rw [if_pos h1, if_neg h2]; simp; omega
  · rw [if_neg h1]; simp; omega
/-- 0: taken; 8: no such place; 9: not taken -/
def checkPath (leaf : ByteArray) (i n : Int) (path : List ByteArray) (root : ByteArray) : Int :=
  if placed i n = false then 8 else
  if path.length ≠ (Hs.sides i.toNat n.toNat).length ∨ wholeB path = false ∨ wholeB [leaf, root] = false then 9 else
  if Hs.climb leaf (Hs.sides i.toNat n.toNat) path = root then 0 else 9
theorem placed_nat {i n : Int} (h : placed i n = true) : ∃ a b : Nat, i = a ∧ n = b ∧ a < b ∧ b ≤ 1099511627776 := by
  unfold placed at h
  simp only [Bool.and_eq_true, decide_eq_true_eq] at h
  obtain ⟨⟨⟨h1, h2⟩, h3⟩, h4⟩ := h
  exact ⟨i.toNat, n.toNat, by omega, by omega, by omega, by omega⟩
theorem checkPath_ev (leaf : ByteArray) (i n : Int) (path : List ByteArray) (root : ByteArray) : Ev (fun k => hash_CheckPath.f k leaf i n path root) (checkPath leaf i n path root) := by
  unfold checkPath
  cases hp : placed i n with
  | false =>
    rw [if_pos rfl]
    refine Ev.congr (f := fun _ => some 8) (fun k => ?_) (Ev.now _)
    unfold hash_CheckPath.f
    rw [placed_some, hp, Option.bind_some, if_neg (by simp)]
  | true =>
    rw [if_neg (by simp)]
    obtain ⟨a, b, rfl, rfl, hab, hb⟩ := placed_nat hp
    simp only [Int.toNat_natCast]
    have es := sides_ev a b hab (by omega)
    have hsl := sides_60 a b (by omega)
    have key : ∀ R, Ev (fun k => if (path.length : Int) = ((Hs.sides a b).length : Int) then ((hash_whole.f path).bind fun t229 => (if t229 = true then ((hash_whole.f (([leaf, root] : List ByteArray))).bind fun t233 => (hash_CheckPath.j0 k leaf path root (Hs.sides a b) (!t233))) else (hash_CheckPath.j0 k leaf path root (Hs.sides a b) true))) else (hash_CheckPath.j0 k leaf path root (Hs.sides a b) true)) R → Ev (fun k => hash_CheckPath.f k leaf (a : Int) (b : Int) path root) R := by
      intro R hR
      refine Ev.congr (f := fun k => (hash_sides.f k (a : Int) (b : Int)).bind fun t226 => (if (path.length : Int) = (t226.length : Int) then ((hash_whole.f path).bind fun t229 => (if t229 = true then ((hash_whole.f (([leaf, root] : List ByteArray))).bind fun t233 => (hash_CheckPath.j0 k leaf path root t226 (!t233))) else (hash_CheckPath.j0 k leaf path root t226 true))) else (hash_CheckPath.j0 k leaf path root t226 true))) (fun k => ?_) (Ev.bind es hR)
      unfold hash_CheckPath.f
      rw [placed_some, hp, Option.bind_some, if_pos rfl]
    have nine : Ev (fun k => hash_CheckPath.j0 k leaf path root (Hs.sides a b) true) 9 := Ev.step (f := fun _ => some 9) (fun k => by simp only [hash_CheckPath.j0]; rfl) (Ev.now _)
    apply key
    by_cases hlen : path.length = (Hs.sides a b).length
    · cases hw1 : wholeB path with
      | false =>
        rw [if_pos (.inr (.inl rfl))]
        refine Ev.congr (fun k => ?_) nine
        rw [if_pos (by omega), show hash_whole.f path = some false from congrArg some hw1, Option.bind_some, if_neg (by simp)]
      | true =>
        cases hw2 : wholeB [leaf, root] with
        | false =>
          rw [if_pos (.inr (.inr rfl))]
          refine Ev.congr (fun k => ?_) nine
          rw [if_pos (by omega), show hash_whole.f path = some true from congrArg some hw1, Option.bind_some, if_pos rfl, show hash_whole.f [leaf, root] = some false from congrArg some hw2, Option.bind_some]
          rfl
        | true =>
          rw [if_neg (by simp [hlen])]
          have hin := inputs_ev leaf (Hs.sides a b) path hlen (by omega) (wholeB_small _ hw1) (wholeB_small _ hw2 leaf (by simp))
          refine Ev.congr (f := fun k => hash_CheckPath.j0 k leaf path root (Hs.sides a b) false) (fun k => ?_) (Ev.step (f := fun k => (hash_inputs.f k leaf (Hs.sides a b) path).bind fun bt234 => (if bt234.2.toList = root.toList then (some 0) else (some 9))) (fun k => ?_) (Ev.bind hin (Ev.congr (fun _ => ?_) (Ev.now _))))
          · rw [if_pos (by omega), show hash_whole.f path = some true from congrArg some hw1, Option.bind_some, if_pos rfl, show hash_whole.f [leaf, root] = some true from congrArg some hw2, Option.bind_some]
            rfl
          · simp only [hash_CheckPath.j0]
            rw [if_neg (by simp)]
          · by_cases ht : Hs.climb leaf (Hs.sides a b) path = root
            · rw [if_pos (by rw [ht]), if_pos ht]
            · rw [if_neg (fun e => ht (toList_inj e)), if_neg ht]
    · rw [if_pos (.inl hlen)]
      refine Ev.congr (fun k => ?_) nine
      rw [if_neg (by omega)]
end Go.Proofs.Ytkbbdbnjplcjdaa.F
end
section
/-
  hash.Collide: what it answers is what the plain text collide does.
-/
namespace Go.Proofs.Ytkbbdbnjplcjdaa
open Go.RowKit Go.Proofs.YtkbbdbnjplcjdaaW.PrintWords Go.Proofs.YtkbbdbnjplcjdaaW.PrintLast Go.Proofs.YtkbbdbnjplcjdaaW.PrintMore
set_option linter.unusedVariables false
set_option linter.unusedSimpArgs false
/-- the last of the two lists' texts, below k, that are not the same -/
def lastDiff (x y : List (List Int)) : Nat → List Int × List Int × Bool
  | 0 => ([], [], false)
  | k + 1 => if x.getD k [] = y.getD k [] then lastDiff x y k else (x.getD k [], y.getD k [], true)
def collide (i n : Int) (a : ByteArray) (pa : List ByteArray) (b : ByteArray) (pb : List ByteArray) : List Int × List Int × Bool :=
  if F.placed i n = false ∨ a = b then ([], [], false) else
  if pa.length ≠ (Hs.sides i.toNat n.toNat).length ∨ pb.length ≠ (Hs.sides i.toNat n.toNat).length ∨ wholeB pa = false ∨ wholeB pb = false ∨ wholeB [a, b] = false then ([], [], false) else
  if Hs.climb a (Hs.sides i.toNat n.toNat) pa = Hs.climb b (Hs.sides i.toNat n.toNat) pb then
    lastDiff (Hs.inputs a (Hs.sides i.toNat n.toNat) pa) (Hs.inputs b (Hs.sides i.toNat n.toNat) pb) (Hs.sides i.toNat n.toNat).length
  else ([], [], false)
def hash_Collide.f (a0 a1 : Int) (a2 : ByteArray) (l3 : List ByteArray) (a4 : ByteArray) (l5 : List ByteArray) : Option ((List Int) × (List Int) × Bool) := some (collide a0 a1 a2 l3 a4 l5)
namespace F
theorem equal_from (a b : List Int) (hl : a.length = b.length) (hb : a.length ≤ 9000000000000000000) (d : Nat) : ∀ i, i + d = a.length →
    Ev (fun k => slices_Equal_byte_byte.l0 k a b (a.length : Int) (i : Int)) (decide (a.drop i = b.drop i)) := by
  induction d with
  | zero =>
    intro i hi
    rw [List.drop_eq_nil_of_le (by omega), List.drop_eq_nil_of_le (by omega), decide_eq_true rfl]
    refine Ev.step (f := fun _ => some _) (fun k => ?_) (Ev.now _)
    simp only [slices_Equal_byte_byte.l0]
    rw [if_neg (by omega)]
  | succ d ih =>
    intro i hi
    have h1 : i < a.length := by omega
    have h2 : i < b.length := by omega
    have e := ih (i + 1) (by omega)
    rw [List.drop_eq_getElem_cons h1, List.drop_eq_getElem_cons h2]
    have hw : wrap64 ((i : Int) + 1) = ((i + 1 : Nat) : Int) := by unfold wrap64; omega
    have r1 : rd a (i : Int) = a[i] := by simp [rd, List.getD_eq_getElem?_getD, h1]
    have r2 : rd b (i : Int) = b[i] := by simp [rd, List.getD_eq_getElem?_getD, h2]
    by_cases hq : a[i] = b[i]
    · rw [show decide (a[i] :: a.drop (i + 1) = b[i] :: b.drop (i + 1)) = decide (a.drop (i + 1) = b.drop (i + 1)) from decide_eq_decide.2 ⟨fun h => (List.cons.inj h).2, fun h => by rw [hq, h]⟩]
      refine Ev.step (fun k => ?_) e
      simp only [slices_Equal_byte_byte.l0]
      rw [if_pos (by omega), if_pos (by omega), if_pos (by omega), if_pos (by omega), r1, r2, if_pos hq, hw]
    · rw [show decide (a[i] :: a.drop (i + 1) = b[i] :: b.drop (i + 1)) = false from decide_eq_false (fun h => hq (List.cons.inj h).1)]
      refine Ev.step (f := fun _ => some _) (fun k => ?_) (Ev.now _)
      simp only [slices_Equal_byte_byte.l0]
      rw [if_pos (by omega), if_pos (by omega), if_pos (by omega), if_pos (by omega), r1, r2, if_neg hq]
theorem equal_ev (a b : List Int) (hb : a.length ≤ 9000000000000000000) : Ev (fun k => slices_Equal_byte_byte.f k a b) (decide (a = b)) := by
  by_cases hl : a.length = b.length
  · refine Ev.congr (f := fun k => slices_Equal_byte_byte.l0 k a b (a.length : Int) ((0 : Nat) : Int)) (fun k => ?_) (by simpa using equal_from a b hl hb a.length 0 (by omega))
    simp only [slices_Equal_byte_byte.f]
    rw [if_pos (by omega)]
    rfl
  · rw [decide_eq_false (fun h => hl (congrArg _ h))]
    refine Ev.congr (f := fun _ => some _) (fun k => ?_) (Ev.now _)
    simp only [slices_Equal_byte_byte.f]
    rw [if_neg (by omega)]
theorem inputs_length (x : ByteArray) (bs : List Bool) (ps : List ByteArray) : (Hs.inputs x bs ps).length = bs.length := by
  induction bs generalizing x ps with
  | nil => rfl
  | cons b bs ih => simp only [Hs.inputs, List.length_cons, ih]
theorem inputs_small (bs : List Bool) : ∀ (x : ByteArray) (ps : List ByteArray), small x → smalls ps → ∀ r ∈ Hs.inputs x bs ps, r.length ≤ 9000000000000000000 := by
  induction bs with
  | nil => intro x ps hx hp r hr; simp [Hs.inputs] at hr
  | cons b bs ih =>
    intro x ps hx hp r hr
    simp only [Hs.inputs, List.mem_cons] at hr
    rcases hr with rfl | hr
    · have h0 : small (ps.headD ByteArray.empty) := by
        cases ps with
        | nil => exact Nat.zero_le _
        | cons p ps => exact hp p (by simp)
      have := step_length b x _ hx h0
      omega
    · refine ih _ _ (small_sum _) (fun y hy => hp y (List.mem_of_mem_tail hy)) r hr
end F
theorem quietDrawn {P : Program} {f : FuncId} {args : Array Value} {w : World} {n : Nat} {v : Value} (h : Calls P f args (w.drewN n) fun e w' => e = .returned v ∧ Drawn0 (w.drewN n) w') : Calls P f args (w.drewN n) fun e w' => e = .returned v ∧ ∃ m, w' = w.drewN m := h.mono fun _ _ ⟨he, ⟨m, hm⟩⟩ => ⟨he, n + m, by rw [hm, World.drewN_drewN]⟩
theorem coll_nil {a0 a1 : Int} {a2 a4 : ByteArray} {l3 l5 : List ByteArray} {r1 r2 : List Int} {r3 : Bool} (hq : collide a0 a1 a2 l3 a4 l5 = (r1, r2, r3)) (h : collide a0 a1 a2 l3 a4 l5 = ([], [], false)) : r1 = [] ∧ r2 = [] ∧ r3 = false := by
  rw [h] at hq
  injection hq with h1 h2
  injection h2 with h2 h3
  exact ⟨h1.symm, h2.symm, h3.symm⟩
set_option maxHeartbeats 8000000 in
set_option maxRecDepth 100000 in
theorem hash_Collide.calls (a0 : Int) (a1 : Int) (a2 : ByteArray) (A3 : Option Addr) (c3 : Nat) (l3 : List ByteArray) (a4 : ByteArray) (A5 : Option Addr) (c5 : Nat) (l5 : List ByteArray) (r1 : List Int) (r2 : List Int) (r3 : Bool) (w : World) (hr3 : Kd.C Kd.string w A3 l3.length l3) (hc3 : l3.length ≤ c3) (hr5 : Kd.C Kd.string w A5 l5.length l5) (hc5 : l5.length ≤ c5) (h : hash_Collide.f a0 a1 a2 l3 a4 l5 = some (r1, r2, r3)) :
    Calls Try.prog 30 #[.int .i64 a0, .int .i64 a1, .string a2, .slice A3 l3.length c3, .string a4, .slice A5 l5.length c5] w fun e w' => ∃ v0_ v1_ : Value, e = .returned (.tuple #[v0_, v1_, .bool r3]) ∧ Kd.R (Kd.int .u8) 5 w' w.heap.size (fun k_ => some k_ ≠ (v1_ : Value).ownBlock) v0_ r1 ∧ Kd.R (Kd.int .u8) 5 w' w.heap.size (fun k_ => some k_ ≠ (v0_ : Value).ownBlock) v1_ r2 ∧ Below w.heap.size w w' := by
  have HR3 := Lib.hid hr3
  have HC3 := Lib.hid hc3
  have HR5 := Lib.hid hr5
  have HC5 := Lib.hid hc5
  have HQ := Lib.hid (Option.some.inj h)
  clear hr3 hc3 hr5 hc5 h
  go_enter Try.func30, Try.ntmps30
  go_wp2_with fail
  refine (F.hash_placed.calls a0 a1 (F.placed a0 a1) _ (F.placed_some a0 a1)).mono ?_
  rintro e w1 ⟨rfl, ⟨m1, rfl⟩⟩
  have HB1 : Hid (Below w.heap.size w (w.drewN m1)) := Lib.hid (Drawn0.mk ⟨m1, rfl⟩).below
  generalize w.drewN m1 = w1 at *
  cases hp : F.placed a0 a1 with
  | false =>
    obtain ⟨rfl, rfl, rfl⟩ := coll_nil HQ.out (by unfold collide; rw [if_pos (.inl hp)])
    go_wp2
    go_ret3
    exact ⟨_, _, rfl, Kd.R_nil _ _ _ _ _, Kd.R_nil _ _ _ _ _, HB1.out⟩
  | true =>
    by_cases hab : a2 = a4
    · obtain ⟨rfl, rfl, rfl⟩ := coll_nil HQ.out (by unfold collide; rw [if_pos (.inr hab)])
      have e1 : (a2.toList == a4.toList) = true := by rw [hab]; exact beq_self_eq_true _
      clear hab
      go_wp2
      go_ret3
      exact ⟨_, _, rfl, Kd.R_nil _ _ _ _ _, Kd.R_nil _ _ _ _ _, HB1.out⟩
    · have e1 : (a2.toList == a4.toList) = false := beq_eq_false_iff_ne.2 (fun e => hab (toList_inj e))
      obtain ⟨i, n, rfl, rfl, hi, hn⟩ := F.placed_nat hp
      obtain ⟨k1, hk1⟩ := (F.sides_ev i n hi (by omega)).rounds
      obtain ⟨s, hs⟩ : ∃ s, s = Hs.sides i n := ⟨_, rfl⟩
      have hsl : s.length ≤ 60 := by rw [hs]; exact F.sides_60 i n (by omega)
      rw [← hs] at hk1
      have HK1 := Lib.hid hk1
      have HS := Lib.hid hs
      have HP := Lib.hid hp
      have HAB := Lib.hid hab
      clear hk1 hs hp hab hi hn
      go_wp2_with fail
      refine (F.hash_sides.calls k1 (i : Int) (n : Int) s _ HK1.out).mono ?_
      rintro e w2 ⟨v15, rfl, ho2, hb2⟩
      have HB2 := Lib.hid (below_then HB1.out HB1.out.size hb2)
      obtain ⟨A15, c15, rfl⟩ := Kd.R_slice ho2
      have HO2 := Lib.hid (Kd.R_lower ho2 (show w.heap.size ≤ w1.heap.size from HB1.out.size))
      clear ho2 hb2
      have nilq : l3.length ≠ s.length ∨ l5.length ≠ s.length ∨ wholeB l3 = false ∨ wholeB l5 = false ∨ wholeB [a2, a4] = false → r1 = [] ∧ r2 = [] ∧ r3 = false := by
        intro hh
        refine coll_nil HQ.out ?_
        unfold collide
        rw [if_neg (by rintro (h | h); exact absurd (HP.out.symm.trans h) (by simp); exact HAB.out h), Int.toNat_natCast, Int.toNat_natCast, ← HS.out, if_pos hh]
      have NQ := Lib.hid nilq
      clear nilq
      by_cases hl3 : l3.length = s.length
      · have f1 : ((l3.length : Int) != (s.length : Int)) = false := bne_eq_false_iff_eq.mpr (by omega)
        have L3 := Lib.hid hl3
        by_cases hl5 : l5.length = s.length
        · have f2 : ((l5.length : Int) != (s.length : Int)) = false := bne_eq_false_iff_eq.mpr (by omega)
          have L5 := Lib.hid hl5
          clear hl3 hl5
          go_wp2_with fail
          refine (hash_whole.calls A3 c3 l3 (wholeB l3) _ (Kd.C_below HR3.out HB2.out) HC3.out rfl).mono ?_
          rintro e w3 ⟨rfl, hb3⟩
          have HO3 := Lib.hid (Kd.R_below HO2.out hb3)
          have HB3 := Lib.hid (below_then HB2.out HB2.out.size hb3)
          clear hb3 HO2 HB2
          cases hw3 : wholeB l3 with
          | false =>
            obtain ⟨rfl, rfl, rfl⟩ := NQ.out (.inr (.inr (.inl hw3)))
            go_wp2
            go_ret3
            exact ⟨_, _, rfl, Kd.R_nil _ _ _ _ _, Kd.R_nil _ _ _ _ _, HB3.out⟩
          | true =>
            have W3 := Lib.hid hw3
            clear hw3
            go_wp2_with fail
            refine (hash_whole.calls A5 c5 l5 (wholeB l5) _ (Kd.C_below HR5.out HB3.out) HC5.out rfl).mono ?_
            rintro e w4 ⟨rfl, hb4⟩
            have HO4 := Lib.hid (Kd.R_below HO3.out hb4)
            have HB4 := Lib.hid (below_then HB3.out HB3.out.size hb4)
            clear hb4 HO3 HB3
            cases hw5 : wholeB l5 with
            | false =>
              obtain ⟨rfl, rfl, rfl⟩ := NQ.out (.inr (.inr (.inr (.inl hw5))))
              go_wp2
              go_ret3
              exact ⟨_, _, rfl, Kd.R_nil _ _ _ _ _, Kd.R_nil _ _ _ _ _, HB4.out⟩
            | true =>
              have W5 := Lib.hid hw5
              clear hw5
              go_wp2_with (first | ((with_reducible refine gate_dst (N := 58) rfl ?_); (try (refine gate_guard (by rfl) ?_; dsimp only)); refine Kd.R_lit Kd.string _ 9 ?hg (N := 58) ?hd (xs := ([a2, a4] : List ByteArray)) (inner := [.string a2, .string a4]) (ok := fun _ => True) (okp := fun _ => True) ?hr ?hp (fun _ hk => hk) trivial (Below.refl _ _) (Nat.le_refl _) (by simp) ?_; (case hd => rfl); (case hg => rfl); (case hr => first | (go_simp; done) | (go_simp; rfl)); (case hp => exact (Reps.one (show Kd.M Kd.string _ _ _ a2 [.string a2] from rfl) (Reps.one (show Kd.M Kd.string _ _ _ a4 [.string a4] from rfl) (Reps.none _ _)))); intro v2 w5 ho5 hb5 hg_ hnew_; clear hg_ hnew_; obtain ⟨Al, cl, rfl⟩ := Kd.R_slice ho5; have HL5 := Lib.hid ho5; have HB5 := Lib.hid hb5; clear ho5 hb5) | fail)
              refine (hash_whole.calls Al cl [a2, a4] (wholeB [a2, a4]) _ (Kd.R_reads' HL5.out).2.2 (Kd.R_reads' HL5.out).2.1 rfl).mono ?_
              rintro e w6 ⟨rfl, hb6⟩
              have HO6 := Lib.hid (Kd.R_below (Kd.R_below HO4.out HB5.out) hb6)
              have HB6 := Lib.hid (below_then (below_then HB4.out HB4.out.size HB5.out) (Nat.le_trans HB4.out.size HB5.out.size) hb6)
              clear hb6 HO4 HB4 HL5 HB5
              cases hwl : wholeB [a2, a4] with
              | false =>
                obtain ⟨rfl, rfl, rfl⟩ := NQ.out (.inr (.inr (.inr (.inr hwl))))
                go_wp2
                go_ret3
                exact ⟨_, _, rfl, Kd.R_nil _ _ _ _ _, Kd.R_nil _ _ _ _ _, HB6.out⟩
              | true =>
                have WL := Lib.hid hwl
                clear hwl
                obtain ⟨kx, hkx⟩ := (F.inputs_ev a2 s l3 (by rw [L3.out]) (by omega) (wholeB_small _ W3.out) (wholeB_small _ WL.out a2 (by simp))).rounds
                obtain ⟨ky, hky⟩ := (F.inputs_ev a4 s l5 (by rw [L5.out]) (by omega) (wholeB_small _ W5.out) (wholeB_small _ WL.out a4 (by simp))).rounds
                have hq : (r1, r2, r3) = if Hs.climb a2 s l3 = Hs.climb a4 s l5 then lastDiff (Hs.inputs a2 s l3) (Hs.inputs a4 s l5) s.length else ([], [], false) := by
                  rw [← HQ.out]
                  unfold collide
                  rw [if_neg (by rintro (h | h); exact absurd (HP.out.symm.trans h) (by simp); exact HAB.out h), Int.toNat_natCast, Int.toNat_natCast, ← HS.out, if_neg (by rw [L3.out, L5.out, W3.out, W5.out, WL.out]; simp)]
                have lx := F.inputs_length a2 s l3
                have ly := F.inputs_length a4 s l5
                have bx := F.inputs_small s a2 l3 (wholeB_small _ WL.out a2 (by simp)) (wholeB_small _ W3.out)
                have bY := F.inputs_small s a4 l5 (wholeB_small _ WL.out a4 (by simp)) (wholeB_small _ W5.out)
                generalize Hs.inputs a2 s l3 = x at *
                generalize Hs.inputs a4 s l5 = y at *
                generalize Hs.climb a2 s l3 = tx at *
                generalize Hs.climb a4 s l5 = ty at *
                have HQ2 := Lib.hid hq
                have KX := Lib.hid hkx
                have KY := Lib.hid hky
                have LX := Lib.hid lx
                have LY := Lib.hid ly
                have BX := Lib.hid bx
                have BY := Lib.hid bY
                clear hq hkx hky lx ly bx bY
                go_wp2_with fail
                refine (F.hash_inputs.calls kx a2 A15 c15 s A3 c3 l3 x tx _ (Kd.R_reads' HO6.out).2.2 (Kd.R_reads' HO6.out).2.1 (Kd.C_below HR3.out HB6.out) HC3.out KX.out).mono ?_
                rintro e w7 ⟨v7, rfl, ho7, hb7⟩
                have HO7 := Lib.hid (Kd.R_below HO6.out hb7)
                have HB7 := Lib.hid (below_then HB6.out HB6.out.size hb7)
                have HX7 := Lib.hid ho7
                have hz7 : w6.heap.size ≤ w7.heap.size := hb7.size
                clear hb7 HO6 ho7
                go_wp2_with fail
                refine (F.hash_inputs.calls ky a4 A15 c15 s A5 c5 l5 y ty _ (Kd.R_reads' HO7.out).2.2 (Kd.R_reads' HO7.out).2.1 (Kd.C_below HR5.out HB7.out) HC5.out KY.out).mono ?_
                rintro e w8 ⟨v8, rfl, ho8, hb8⟩
                have HB8 := Lib.hid (below_then HB7.out HB7.out.size hb8)
                have HX8 := Lib.hid (Kd.S_lower (Kd.S_mono (Kd.S_below (Kd.S_bound HX7.out) hb8) (ok' := fun k => k < w7.heap.size) (fun k hk => hk.2.2.1)) HB6.out.size)
                have HY8 := Lib.hid ho8
                clear hb8 HO7 HX7 ho8 HB6 HR3 HR5
                by_cases htop : tx = ty
                · have e2 : (tx.toList == ty.toList) = true := by rw [htop]; exact beq_self_eq_true _
                  have hq := HQ2.out
                  rw [if_pos htop] at hq
                  have HQ3 := Lib.hid hq
                  clear htop hq
                  obtain ⟨Ax, cx, rfl⟩ := Kd.S_slice HX8.out
                  obtain ⟨Ay, cy, rfl⟩ := Kd.S_slice HY8.out
                  go_wp2_with fail
                  generalize hL : s.length = L at *
                  clear hL
                  go_loopw [20] (fun v wr => ∃ (j q : Nat), j ≤ L ∧ v = .int .i64 ((j : Int) - 1) ∧ wr = w8.drewN q ∧ (r1, r2, r3) = lastDiff x y j) (fun v _ => (intOf v + 1).toNat)
                  case atStart => exact ⟨L, 0, Nat.le_refl _, by go_num, rfl, HQ3.out⟩
                  case round =>
                    obtain ⟨j, q, hj, rfl, rfl, hd⟩ := hrel
                    have HBr := Lib.hid (below_then HB8.out HB8.out.size (Drawn0.mk ⟨q, rfl⟩ : Drawn0 w8 (w8.drewN q)).below)
                    cases j with
                    | zero =>
                      obtain ⟨rfl, rfl, rfl⟩ : r1 = [] ∧ r2 = [] ∧ r3 = false := by
                        injection hd with h1 h2
                        injection h2 with h2 h3
                        exact ⟨h1, h2, h3⟩
                      clear hd
                      rw [show (((0 : Nat) : Int) - 1) = -1 from rfl]
                      go_wp2
                      go_ret3
                      exact ⟨_, _, rfl, Kd.R_nil _ _ _ _ _, Kd.R_nil _ _ _ _ _, HBr.out⟩
                    | succ j =>
                      rw [show (((j + 1 : Nat) : Int) - 1) = (j : Int) by omega]
                      have lx : j < x.length := by rw [LX.out]; omega
                      have ly : j < y.length := by rw [LY.out]; omega
                      obtain ⟨gx, cx', ex, _⟩ := Kd.S_form (Kd.S_drewN HX8.out q) (by omega)
                      cases ex
                      obtain ⟨gy, cy', ey, _⟩ := Kd.S_form (Kd.S_drewN HY8.out q) (by omega)
                      cases ey
                      obtain ⟨_, _, ⟨vx, rfl, hRx⟩, hcx⟩ := Kd.S_get (Kd.S_drewN HX8.out q) [] (j : Int) (by omega) (by omega)
                      obtain ⟨_, _, ⟨vy, rfl, hRy⟩, hcy⟩ := Kd.S_get (Kd.S_drewN HY8.out q) [] (j : Int) (by omega) (by omega)
                      have hox : ∀ k, vx.ownBlock = some k → k < w7.heap.size := fun k hk => (hRx.1 k hk).1
                      have hoy : ∀ k, vy.ownBlock = some k → w7.heap.size ≤ k := fun k hk => Kd.R_base hRy k hk
                      obtain ⟨xe, hxe⟩ : ∃ xe, xe = x.getD j [] := ⟨_, rfl⟩
                      obtain ⟨ye, hye⟩ : ∃ ye, ye = y.getD j [] := ⟨_, rfl⟩
                      rw [Int.toNat_natCast, ← hxe] at hRx
                      rw [Int.toNat_natCast, ← hye] at hRy
                      have hbx : xe.length ≤ 9000000000000000000 := by rw [hxe, List.getD_eq_getElem?_getD, List.getElem?_eq_getElem lx]; exact BX.out _ (List.getElem_mem lx)
                      have hcx0 := hcx 0 vx rfl
                      have hcy0 := hcy 0 vy rfl
                      rw [Int.toNat_natCast] at hcx0 hcy0
                      simp only [Nat.mul_one, Nat.add_zero, show (Kd.slice 5 (Kd.int .u8)).sz = 1 from rfl, add_plain, Nat.zero_add] at hcx0 hcy0
                      have RX := Lib.hid (Kd.R_lower (Kd.R_mono hRx (ok' := fun k => some k ≠ vy.ownBlock) (fun k hk e => absurd (hoy k e.symm) (Nat.not_le.2 hk.1))) (Nat.le_refl w.heap.size))
                      have RY := Lib.hid (Kd.R_lower (Kd.R_mono (Kd.R_bound hRy) (ok' := fun k => some k ≠ vx.ownBlock) (fun k hk e => absurd (hox k e.symm) (Nat.not_lt.2 hk.2.1))) HB7.out.size)
                      clear hRx hRy hox hoy hcx hcy
                      obtain ⟨Bx, bx, rfl⟩ := Kd.R_slice RX.out
                      obtain ⟨By, bY', rfl⟩ := Kd.R_slice RY.out
                      obtain ⟨ke, hke⟩ := (F.equal_ev xe ye hbx).rounds
                      have KE := Lib.hid hke
                      have HXE := Lib.hid hxe
                      have HYE := Lib.hid hye
                      have pj : (0 : Int) ≤ (j : Int) := by omega
                      have px : (j : Int) < (x.length : Int) := by omega
                      have py : (j : Int) < (y.length : Int) := by omega
                      have CX := Lib.hid (Kd.R_reads' RX.out).2.2
                      have CXl := Lib.hid (Kd.R_reads' RX.out).2.1
                      have CY := Lib.hid (Kd.R_reads' RY.out).2.2
                      have CYl := Lib.hid (Kd.R_reads' RY.out).2.1
                      generalize hW : w8.drewN q = W at *
                      have HWq := Lib.hid hW.symm
                      clear hW
                      clear hke hxe hye
                      unfold lastDiff at hd
                      rw [← HXE.out, ← HYE.out] at hd
                      by_cases hxy : xe = ye
                      · rw [if_pos hxy] at hd
                        rw [decide_eq_true hxy] at KE
                        have HD := Lib.hid hd
                        clear hd hxy
                        go_wp2_with fail
                        go_quiet ((go_at_call 49; with_reducible exact quietDrawn (F.slices_Equal_byte_byte.calls ke Bx bx xe By bY' ye true _ (Kd.C_drewN CX.out _) CXl.out (Kd.C_drewN CY.out _) CYl.out KE.out)))
                        go_wp2
                        go_roundw
                        case measure => show ((j : Int) - 1 + 1).toNat < ((j : Int) + 1).toNat; omega
                        case rel => exact ⟨j, q + nq, by omega, by go_num, by rw [HWq.out, World.drewN_drewN], HD.out⟩
                      · rw [if_neg hxy] at hd
                        rw [decide_eq_false hxy] at KE
                        obtain ⟨rfl, rfl, rfl⟩ : r1 = xe ∧ r2 = ye ∧ r3 = true := by
                          injection hd with h1 h2
                          injection h2 with h2 h3
                          exact ⟨h1, h2, h3⟩
                        clear hd hxy
                        go_wp2_with fail
                        go_quiet ((go_at_call 49; with_reducible exact quietDrawn (F.slices_Equal_byte_byte.calls ke Bx bx r1 By bY' r2 false _ (Kd.C_drewN CX.out _) CXl.out (Kd.C_drewN CY.out _) CYl.out KE.out)))
                        have hcx1 : (W.drewN nq).cell? ⟨gx, j, none⟩ = some (.slice Bx r1.length bx) := hcx0
                        have hcy1 : (W.drewN nq).cell? ⟨gy, j, none⟩ = some (.slice By r2.length bY') := hcy0
                        have RX1 := Lib.hid (Kd.R_drewN RX.out nq)
                        have RY1 := Lib.hid (Kd.R_drewN RY.out nq)
                        have HBs := Lib.hid (below_then HBr.out HBr.out.size (Drawn0.mk ⟨nq, rfl⟩ : Drawn0 W (W.drewN nq)).below)
                        generalize W.drewN nq = W1 at *
                        go_wp2_with fail
                        go_quiet (fail)
                        go_wp2
                        go_ret3
                        exact ⟨_, _, rfl, Kd.R_drewN RX1.out _, Kd.R_drewN RY1.out _, below_then HBs.out HBs.out.size (Drawn0.mk ⟨_, rfl⟩ : Drawn0 W1 (W1.drewN _)).below⟩
                · obtain ⟨rfl, rfl, rfl⟩ : r1 = [] ∧ r2 = [] ∧ r3 = false := by
                    have hq := HQ2.out
                    rw [if_neg htop] at hq
                    injection hq with h1 h2
                    injection h2 with h2 h3
                    exact ⟨h1, h2, h3⟩
                  have e2 : (tx.toList == ty.toList) = false := beq_eq_false_iff_ne.2 (fun e => htop (toList_inj e))
                  clear htop
                  go_wp2
                  go_ret3
                  exact ⟨_, _, rfl, Kd.R_nil _ _ _ _ _, Kd.R_nil _ _ _ _ _, HB8.out⟩
        · obtain ⟨rfl, rfl, rfl⟩ := NQ.out (.inr (.inl hl5))
          have f2 : ((l5.length : Int) != (s.length : Int)) = true := bne_iff_ne.mpr (by omega)
          clear hl3 hl5
          go_wp2
          go_ret3
          exact ⟨_, _, rfl, Kd.R_nil _ _ _ _ _, Kd.R_nil _ _ _ _ _, HB2.out⟩
      · obtain ⟨rfl, rfl, rfl⟩ := NQ.out (.inl hl3)
        have f1 : ((l3.length : Int) != (s.length : Int)) = true := bne_iff_ne.mpr (by omega)
        clear hl3
        go_wp2
        go_ret3
        exact ⟨_, _, rfl, Kd.R_nil _ _ _ _ _, Kd.R_nil _ _ _ _ _, HB2.out⟩
end Go.Proofs.Ytkbbdbnjplcjdaa
end
