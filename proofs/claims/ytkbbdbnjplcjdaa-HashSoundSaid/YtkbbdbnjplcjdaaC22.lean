-- JOINED BY A PROGRAM OF THIS PLACE (wip/tools/pack.py) out of: PureHashSound
import Derived.Test.YtkbbdbnjplcjdaaC18
import Derived.Test.YtkbbdbnjplcjdaaC19
section
/-
  The plain statement of HashSound: what Collide tells is a collision, and two leaves under one root are one, or it tells.
-/
namespace Go.Proofs.Ytkbbdbnjplcjdaa.Pure
open Go.RowKit Go.Proofs.Ytkbbdbnjplcjdaa Go.Proofs.Ytkbbdbnjplcjdaa.F Go.Proofs.YtkbbdbnjplcjdaaW.PrintWords Go.Proofs.YtkbbdbnjplcjdaaW.PrintLast Go.Proofs.YtkbbdbnjplcjdaaW.PrintMore
set_option linter.unusedVariables false
set_option linter.unusedSimpArgs false
theorem sound_end (a0 a1 : Int) (a2 : ByteArray) (l3 : List ByteArray) (a4 : ByteArray) (l5 : List ByteArray) (a6 : ByteArray) (ok : Bool) (h : checkPath a2 a0 a1 l3 a6 = 0 → checkPath a4 a0 a1 l5 a6 = 0 → a2 ≠ a4 → ok = true) :
    Ev (fun k => sawyerlaw15_HashSound.j0 k a0 a1 a2 l3 a4 l5 a6 true ok false) true := by
  refine Ev.step (f := fun k => (hash_CheckPath.f k a2 a0 a1 l3 a6).bind fun t596 => ((hash_CheckPath.f k a4 a0 a1 l5 a6).bind fun t597 => (if t596 = 0 then (if t597 = 0 then (if a2.toList = a4.toList then (some true) else (some ok)) else (some true)) else (some true)))) (fun k => ?_) (Ev.bind (checkPath_ev a2 a0 a1 l3 a6) (Ev.bind (checkPath_ev a4 a0 a1 l5 a6) ?_))
  · simp only [sawyerlaw15_HashSound.j0, if_true, Bool.false_eq_true, if_false]
  · by_cases c1 : checkPath a2 a0 a1 l3 a6 = 0
    · rw [if_pos c1]
      by_cases c2 : checkPath a4 a0 a1 l5 a6 = 0
      · rw [if_pos c2]
        by_cases c3 : a2.toList = a4.toList
        · rw [if_pos c3]; exact Ev.now _
        · rw [if_neg c3, h c1 c2 (fun e => c3 (by rw [e]))]; exact Ev.now _
      · rw [if_neg c2]; exact Ev.now _
    · rw [if_neg c1]; exact Ev.now _
theorem HashSound (a0 : Int) (w0 : (Lit.int .i64 a0).wf = true) (a1 : Int) (w1 : (Lit.int .i64 a1).wf = true) (a2 : ByteArray) (w2 : a2.size ≤ 140737488351232) (l3 : List ByteArray) (y31 : l3.length * 16 ≤ 140737488351232) (y32 : ∀ s ∈ l3, s.size ≤ 140737488351232) (a4 : ByteArray) (w4 : a4.size ≤ 140737488351232) (l5 : List ByteArray) (y51 : l5.length * 16 ≤ 140737488351232) (y52 : ∀ s ∈ l5, s.size ≤ 140737488351232) (a6 : ByteArray) (w6 : a6.size ≤ 140737488351232) :
    ∃ k, sawyerlaw15_HashSound.f k a0 a1 a2 l3 a4 l5 a6 = some true := by
  refine Ev.rounds ?_
  refine Ev.congr (fun k => rfl) (Ev.bind awake_ev ?_)
  have hb := coll_both a0 a1 a2 l3 a4 l5 a6
  cases hok : (collide a0 a1 a2 l3 a4 l5).2.2 with
  | false =>
    rw [hok] at hb
    refine Ev.congr (f := fun k => sawyerlaw15_HashSound.j0 k a0 a1 a2 l3 a4 l5 a6 true false false) (fun k => ?_) (sound_end _ _ _ _ _ _ _ _ (fun h1 h2 h3 => hb h3 h1 h2))
    simp only [hash_Collide.f, Option.bind_some, hok, Bool.false_eq_true, if_false]
  | true =>
    obtain ⟨t, u, hq, hne, hsum, ht, hu⟩ := coll_true a0 a1 a2 l3 a4 l5 hok
    have s1 := sum_ok (bytesOf t) (bytesOf_range t) (by rw [bytesOf_length]; exact ht)
    have s2 := sum_ok (bytesOf u) (bytesOf_range u) (by rw [bytesOf_length]; exact hu)
    refine Ev.congr (f := fun k => sawyerlaw15_HashSound.j0 k a0 a1 a2 l3 a4 l5 a6 true true false) (fun k => ?_) (sound_end _ _ _ _ _ _ _ _ (fun _ _ _ => rfl))
    simp only [hash_Collide.f, Option.bind_some, hq, if_true, str_bytes, s1, s2, hsum]
    rw [if_neg (fun e => hne (toList_inj e))]
    simp
end Go.Proofs.Ytkbbdbnjplcjdaa.Pure
end
