-- JOINED BY A PROGRAM OF THIS PLACE (wip/tools/pack.py) out of: PureHashSame
import Derived.Test.YtkbbdbnjplcjdaaC17
import Derived.Test.YtkbbdbnjplcjdaaC18
section
/-
  The plain statement of HashSame: a leaf that is another one under the same root: Collide tells.
-/
namespace Go.Proofs.Ytkbbdbnjplcjdaa.Pure
open Go.RowKit Go.Proofs.Ytkbbdbnjplcjdaa Go.Proofs.Ytkbbdbnjplcjdaa.F Go.Proofs.YtkbbdbnjplcjdaaW.PrintWords Go.Proofs.YtkbbdbnjplcjdaaW.PrintLast Go.Proofs.YtkbbdbnjplcjdaaW.PrintMore
set_option linter.unusedVariables false
set_option linter.unusedSimpArgs false
theorem HashSame (l : List (List Int)) (y1 : l.length * 24 ≤ 140737488351232) (y2 : ∀ r ∈ l, r.length ≤ 140737488351232) (hb : ∀ r ∈ l, ∀ x ∈ r, 0 ≤ x ∧ x < 256) (a : Int) (wa : (Lit.int .i64 a).wf = true) (l2 : List Int) (z2 : l2.length * 1 ≤ 140737488351232) (hb2 : ∀ x ∈ l2, 0 ≤ x ∧ x < 256) :
    ∃ k, sawyerlaw15_HashSame.f k l a l2 = some true := by
  refine Ev.rounds ?_
  refine Ev.congr (fun k => rfl) (Ev.bind awake_ev (Ev.bind (leaves_ev l y2 hb) ?_))
  have hlen := leaves_length l
  have hsz := leaves_sized l
  generalize leavesOf l = h at hlen hsz ⊢
  by_cases h0 : h.length = 0
  · exact Ev.congr (fun k => if_pos (by omega)) (Ev.now _)
  · obtain ⟨i, hi, hin⟩ := picked a h.length (by omega)
    have hs := smalls_32 hsz
    have hl := leaf_some l2 hb2 (by omega)
    have hnn : ¬ ((h.length : Int) = 0) := by omega
    have p0 : (0 : Int) ≤ (i : Int) := by omega
    have p2 : (i : Int) < (h.length : Int) := by omega
    obtain ⟨g, hg⟩ : ∃ g, g = h.set i (Hs.leaf l2) := ⟨_, rfl⟩
    have gl : g.length = h.length := by rw [hg, List.length_set]
    have gsz : sized g := by
      rw [hg]
      intro x hx
      rcases List.mem_or_eq_of_mem_set hx with hx | rfl
      · exact hsz x hx
      · exact Sha.sum_size _
    have gs := smalls_32 gsz
    have p3 : (i : Int) < (g.length : Int) := by omega
    have e1 := path_ev h (i : Int) (by omega) hs
    rw [pathR_in h i hin] at e1
    have e2 := path_ev g (i : Int) (by omega) gs
    rw [pathR_in g i (by omega)] at e2
    have er := root_ev h.length h rfl (by omega) hs
    have eg := root_ev g.length g rfl (by omega) gs
    have c1 := checkPath_own h i hin (by omega) hsz
    have c2 := checkPath_own g i (by omega) (by omega) gsz
    have fin : ∀ b : Bool, (b = false → Hs.root g = Hs.root h ∧ g.getD i ByteArray.empty ≠ h.getD i ByteArray.empty) → Ev (fun k => sawyerlaw15_HashSame.j0 k true h (i : Int) g b) true := by
      intro b hbb
      cases b with
      | true => exact Ev.step (f := fun _ => some true) (fun k => by simp only [sawyerlaw15_HashSame.j0, if_true]) (Ev.now _)
      | false =>
        obtain ⟨hr, hne⟩ := hbb rfl
        have hc := coll_both (i : Int) (h.length : Int) (h.getD i ByteArray.empty) (Hs.path h i) (g.getD i ByteArray.empty) (Hs.path g i) (Hs.root h) (fun e => hne e.symm) c1 (by rw [← hr, ← gl]; exact c2)
        refine Ev.step (f := fun k => (hash_Path.f k h (i : Int)).bind fun bt629 => ((hash_Path.f k g (i : Int)).bind fun bt633 => (if 0 ≤ (i : Int) then (if (i : Int) < (h.length : Int) then (if (i : Int) < (g.length : Int) then ((hash_Collide.f (i : Int) (h.length : Int) (rdOf ByteArray.empty h (i : Int)) bt629.1 (rdOf ByteArray.empty g (i : Int)) bt633.1).bind fun bt639 => some bt639.2.2) else (none)) else (none)) else (none)))) (fun k => ?_) (Ev.bind e1 (Ev.bind e2 ?_))
        · simp only [sawyerlaw15_HashSame.j0, Bool.false_eq_true, if_false, if_true]
        · simp only [if_pos p0, if_pos p2, if_pos p3, hash_Collide.f, Option.bind_some, rdOf_n]
          rw [hc]
          exact Ev.now _
    have hap : ([] : List ByteArray).length + h.length < 8796093022208 := by simp; omega
    simp only [hi, if_neg hnn, Option.bind_some, if_pos hap, List.nil_append, hl, if_pos p0, if_pos p2, Int.toNat_natCast, ← hg, if_pos p3]
    by_cases hq : (rdOf ByteArray.empty g (i : Int)).toList = (rdOf ByteArray.empty h (i : Int)).toList
    · simp only [if_pos hq]
      exact fin true (fun h => by cases h)
    · simp only [if_neg hq]
      refine Ev.bind eg (Ev.bind er (fin _ (fun hb => ⟨?_, ?_⟩)))
      · exact toList_inj (bne_eq_false_iff_eq.1 hb)
      · intro e
        apply hq
        rw [rdOf_n, rdOf_n, e]
end Go.Proofs.Ytkbbdbnjplcjdaa.Pure
end
