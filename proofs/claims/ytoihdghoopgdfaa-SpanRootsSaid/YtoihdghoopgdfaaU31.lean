-- JOINED BY A PROGRAM OF THIS PLACE (wip/tools/pack.py) out of: PureSpanRoots
import Derived.Test.YtoihdghoopgdfaaU28
import Derived.Test.YtoihdghoopgdfaaU30
section
/-
  SpanRoots: the plain statement.
-/
namespace Go.Proofs.Ytoihdghoopgdfaa.F
open Go.RowKit Go.Proofs.Ytoihdghoopgdfaa Go.Proofs.YtoihdghoopgdfaaW.PrintWords Go.Proofs.YtoihdghoopgdfaaW.PrintLast Go.Proofs.YtoihdghoopgdfaaW.PrintMore
set_option linter.unusedVariables false
set_option linter.unusedSimpArgs false
theorem root_of_nodes (h : List ByteArray) (hs : Sp.sized h) (hl : h.length ≤ 80) : span_Root.f (h.length : Int) (Sp.nodes h) = some (Hs.root h, 0) := by
  unfold span_Root.f
  rw [if_pos (Sp.nodes_ok h hs (by omega)), Sp.fold_nodes _ h rfl]
theorem roots_end (h : List ByteArray) (hs : Sp.sized h) (hl : h.length ≤ 80) (kk : Int) : Ev (fun k => sawyerlaw16_SpanRoots.l1 k true h 0 kk (h.length : Int) (h.length : Int) (Sp.nodes h)) true := by
  have h1 := of_ev h hs (by omega)
  have hn := spanOk_short (Sp.nodes_ok h hs (by omega))
  have h2 := same16_ev (h.length : Int) (Sp.nodes h) (by omega)
  have h3 := root_ev h.length h rfl (by omega) (smalls_32 hs)
  have e3 : Ev (fun k => (hash_Root.f k h).bind fun t => some ((Hs.root h).toList == t.toList)) true := Ev.bind (f := fun _ t => some ((Hs.root h).toList == t.toList)) h3 (by simpa using Ev.now true)
  have e2 : Ev (fun k => (sawyerref16_Same.f k (h.length : Int) (Sp.nodes h) (h.length : Int) (Sp.nodes h)).bind fun t => if t = true then ((hash_Root.f k h).bind fun t => some ((Hs.root h).toList == t.toList)) else some false) true :=
    Ev.bind (f := fun k t => if t = true then ((hash_Root.f k h).bind fun t => some ((Hs.root h).toList == t.toList)) else some false) h2 (by simpa using e3)
  refine Ev.step (fun k => ?_) (Ev.bind (f := fun k bt => if bt.2.2 = 0 then ((sawyerref16_Same.f k bt.1 bt.2.1 (h.length : Int) (Sp.nodes h)).bind fun t => if t = true then ((hash_Root.f k h).bind fun t => some ((Hs.root h).toList == t.toList)) else some false) else some false) h1 (by simpa using e2))
  simp only [sawyerlaw16_SpanRoots.l1]
  rw [if_neg (by omega)]
  simp only [root_of_nodes h hs hl, Option.bind_some, if_true, sawyerlaw16_theirs.f]
theorem roots_j3 (h : List ByteArray) (kk : Int) (i : Nat) (hi : i < 80) (ns : List ByteArray) (hok : spanOk ((i + 1 : Nat) : Int) ns = true) (ih2 : Ev (fun k => sawyerlaw16_SpanRoots.l1 k true h 0 kk ((i + 1 : Nat) : Int) ((i + 1 : Nat) : Int) ns) true) : Ev (fun k => sawyerlaw16_SpanRoots.j3 k true h 0 kk (i : Int) false ((i + 1 : Nat) : Int) ns) true := by
  have hw : wrap64 ((i : Int) + 1) = ((i + 1 : Nat) : Int) := by unfold wrap64; omega
  by_cases hk : (i : Int) = kk
  · have h4 := encode_ev (i + 1) ns hok
    have h5 := decode_encoded (i + 1) ns hok
    generalize Cd.num (i + 1) ++ Cd.cat ns = bs at *
    have h6 : Ev (fun k => (span_Decode.f bs).bind fun bt424 => (if bt424.2.2 = 0 then (sawyerlaw16_SpanRoots.l1 k true h 0 kk (wrap64 ((i : Int) + 1)) bt424.1 bt424.2.1) else (some false))) true := by
      refine Ev.congr (fun k => ?_) ih2
      rw [h5, hw]
      rfl
    refine Ev.step (fun k => ?_) (Ev.bind (f := fun k bt => (span_Decode.f bt.1).bind fun bt424 => (if bt424.2.2 = 0 then (sawyerlaw16_SpanRoots.l1 k true h 0 kk (wrap64 ((i : Int) + 1)) bt424.1 bt424.2.1) else (some false))) h4 h6)
    simp only [sawyerlaw16_SpanRoots.j3]
    rw [if_neg (by decide), if_pos hk]
  · refine Ev.step (fun k => ?_) ih2
    simp only [sawyerlaw16_SpanRoots.j3]
    rw [if_neg (by decide), if_neg hk, hw]
theorem roots_step (h : List ByteArray) (kk : Int) (i : Nat) (hi : i < 80) (hlt : i < h.length) (n0 n1 : List ByteArray) (rt : ByteArray) (hpu : span_Push.f (i : Int) n0 (rdOf ByteArray.empty h (i : Int)) = some (((i + 1 : Nat) : Int), n1, 0))
    (hr : span_Root.f ((i + 1 : Nat) : Int) n1 = some (rt, 0)) (h3 : Ev (fun k => hash_Root.f k (h.take (i + 1))) rt) (hj : Ev (fun k => sawyerlaw16_SpanRoots.j3 k true h 0 kk (i : Int) false ((i + 1 : Nat) : Int) n1) true) :
    Ev (fun k => sawyerlaw16_SpanRoots.l1 k true h 0 kk (i : Int) (i : Int) n0) true := by
  have hw : wrap64 ((i : Int) + 1) = ((i + 1 : Nat) : Int) := by unfold wrap64; omega
  have c1 : (i : Int) < (h.length : Int) := by omega
  have c2 : (0 : Int) ≤ (i : Int) := by omega
  have c3 : (0 : Int) ≤ ((i + 1 : Nat) : Int) := by omega
  have c4 : ((i + 1 : Nat) : Int) ≤ (h.length : Int) := by omega
  have e2 : Ev (fun k => if rt.toList = rt.toList then sawyerlaw16_SpanRoots.j3 k true h 0 kk (i : Int) false ((i + 1 : Nat) : Int) n1 else sawyerlaw16_SpanRoots.j3 k true h 0 kk (i : Int) true ((i + 1 : Nat) : Int) n1) true := Ev.congr (fun k => if_pos rfl) hj
  refine Ev.step (fun k => ?_) (Ev.bind (f := fun k t => if rt.toList = t.toList then sawyerlaw16_SpanRoots.j3 k true h 0 kk (i : Int) false ((i + 1 : Nat) : Int) n1 else sawyerlaw16_SpanRoots.j3 k true h 0 kk (i : Int) true ((i + 1 : Nat) : Int) n1) h3 e2)
  simp only [sawyerlaw16_SpanRoots.l1]
  rw [if_pos c1, if_pos c2, hpu, Option.bind_some, hr, Option.bind_some, if_pos rfl, if_pos rfl, hw, if_pos c3, if_pos c4, Int.toNat_natCast, show (((i + 1 : Nat) : Int) != ((i + 1 : Nat) : Int)) = false by simp]
theorem roots_from (h : List ByteArray) (hs : Sp.sized h) (hl : h.length ≤ 80) (kk : Int) (d : Nat) : ∀ i, i + d = h.length → Ev (fun k => sawyerlaw16_SpanRoots.l1 k true h 0 kk (i : Int) (i : Int) (Sp.nodes (h.take i))) true := by
  induction d with
  | zero =>
    intro i hi
    have := roots_end h hs hl kk
    rw [show i = h.length by omega, List.take_length]
    exact this
  | succ d ih =>
    intro i hi
    have hlt : i < h.length := by omega
    have hp := Sp.pushed_nodes (h.take i) (h.getD i ByteArray.empty) (Sp.sized_take hs i) (by rw [List.length_take]; omega) (Sp.sized_get hs i hlt)
    rw [← take_snoc_T h i hlt, List.length_take, List.length_take, Nat.min_eq_left (by omega), Nat.min_eq_left (by omega)] at hp
    have hq := Sp.sized_take hs (i + 1)
    have hql : (h.take (i + 1)).length = i + 1 := by rw [List.length_take]; omega
    have hr := root_of_nodes (h.take (i + 1)) hq (by omega)
    have hok := Sp.nodes_ok (h.take (i + 1)) hq (by omega)
    rw [hql] at hr hok
    have h3 := root_ev (i + 1) (h.take (i + 1)) hql (by omega) (smalls_32 hq)
    have hw : wrap64 ((i : Int) + 1) = ((i + 1 : Nat) : Int) := by unfold wrap64; omega
    have ih2 := ih (i + 1) (by omega)
    have hj := roots_j3 h kk i (by omega) _ hok ih2
    have hpu : span_Push.f (i : Int) (Sp.nodes (h.take i)) (rdOf ByteArray.empty h (i : Int)) = some (((i + 1 : Nat) : Int), Sp.nodes (h.take (i + 1)), 0) := by
      rw [rdOf_nat', span_Push.f, hp]
    exact roots_step h kk i (by omega) hlt _ _ _ hpu hr h3 hj
theorem roots_main (h : List ByteArray) (hs : Sp.sized h) (hl : h.length ≤ 80) (a : Int) : Ev (fun k => sawyerlaw16_SpanRoots.j1 k a true h) true := by
  have h1 := of_ev [] (fun x hx => by cases hx) (by simp)
  have h2 := roots_from h hs hl (Go.bits .and .i64 a 127) h.length 0 (by omega)
  rw [List.take_zero] at h2
  refine Ev.step (fun k => ?_) (Ev.bind (f := fun k bt => sawyerlaw16_SpanRoots.l1 k true h bt.2.2 (Go.bits .and .i64 a 127) 0 bt.1 bt.2.1) h1 h2)
  simp only [sawyerlaw16_SpanRoots.j1]
theorem roots_leaves (l : List (List Int)) (hk : ∀ r ∈ l, r.length ≤ 140737488354000) (hkb : ∀ r ∈ l, ∀ x ∈ r, 0 ≤ x ∧ x < 256) (a : Int) (d : Nat) : ∀ (i : Nat) (h : List ByteArray), i + d = 80 → Sp.sized h → h.length = i → Ev (fun k => sawyerlaw16_SpanRoots.l0 k l a true h (i : Int)) true := by
  induction d with
  | zero =>
    intro i h hi hs hl
    refine Ev.step (fun k => ?_) (roots_main h hs (by omega) a)
    simp only [sawyerlaw16_SpanRoots.l0]
    by_cases c : (i : Int) < (l.length : Int)
    · rw [if_pos c, if_neg (by omega)]
    · rw [if_neg c]
  | succ d ih =>
    intro i h hi hs hl
    by_cases c : i < l.length
    · have hm : l.getD i [] ∈ l := by rw [List.getD_eq_getElem?_getD, List.getElem?_eq_getElem c]; exact List.getElem_mem c
      have hlf := leaf_some (l.getD i []) (hkb _ hm) (hk _ hm)
      refine Ev.step (fun k => ?_) (ih (i + 1) (h ++ [Hs.leaf (l.getD i [])]) (by omega) (fun x hx => (List.mem_append.1 hx).elim (hs x) (fun hx => by rw [List.mem_singleton.1 hx]; exact Hs.leaf_size _)) (by simp [hl]))
      simp only [sawyerlaw16_SpanRoots.l0]
      rw [if_pos (by omega), if_pos (by omega), if_pos (by omega), show rd_L3 l (i : Int) = l.getD i [] from rfl, hlf, Option.bind_some, if_pos (by omega), show wrap64 ((i : Int) + 1) = ((i + 1 : Nat) : Int) by unfold wrap64; omega]
    · refine Ev.step (fun k => ?_) (roots_main h hs (by omega) a)
      simp only [sawyerlaw16_SpanRoots.l0]
      rw [if_neg (by omega)]
end Go.Proofs.Ytoihdghoopgdfaa.F
namespace Go.Proofs.Ytoihdghoopgdfaa
set_option linter.unusedVariables false
theorem Pure.SpanRoots (l : List (List Int)) (y : l.length * 24 ≤ 140737488351232) (yr : ∀ r ∈ l, r.length ≤ 140737488351232) (hw : ∀ r ∈ l, ∀ x ∈ r, 0 ≤ x ∧ x < 256) (a : Int) (ha : (Lit.int .i64 a).wf = true) : ∃ k, F.sawyerlaw16_SpanRoots.f k l a = some true := by
  obtain ⟨k, hk⟩ := (F.roots_leaves l (fun r hr => by have := yr r hr; omega) hw a 80 0 [] (by omega) (fun x hx => by cases hx) rfl).rounds
  exact ⟨k, hk⟩
end Go.Proofs.Ytoihdghoopgdfaa
end
