-- JOINED BY A PROGRAM OF THIS PLACE (wip/tools/pack.py) out of: HsRefProg
import Derived.Test.YtkbbdbnjplcjdaaK3
import Derived.Test.YtkbbdbnjplcjdaaK4
import Derived.Test.YtkbbdbnjplcjdaaK6
import Derived.Test.YtkbbdbnjplcjdaaK9
import Derived.Test.YtkbbdbnjplcjdaaK17
section
/-
  The document's Root, Path, Proof, Sides, Climb, CheckPath, as the plain text Hs has them.
-/
namespace Go.Proofs.Ytkbbdbnjplcjdaa.F
open Go.RowKit Go.Proofs.Ytkbbdbnjplcjdaa Go.Proofs.YtkbbdbnjplcjdaaW.PrintWords Go.Proofs.YtkbbdbnjplcjdaaW.PrintLast Go.Proofs.YtkbbdbnjplcjdaaW.PrintMore
set_option linter.unusedVariables false
set_option linter.unusedSimpArgs false
theorem rnode_sm (a b : ByteArray) (ha : small a) (hb : small b) : sawyerref15_Node.f a b = some (Hs.node a b) := rnode_some a b (by unfold small at ha hb; omega)
theorem sub_le (n : Nat) : ∀ (e m : Nat) (l : List ByteArray) (own : Bool), l.length = n → n ≤ 2 ^ e → (Hs.sub m l own).length ≤ e + 1 := by
  induction n using Nat.strongRecOn with
  | ind n ih =>
    intro e m l own hl he
    by_cases hm : m = n
    · subst hm
      subst hl
      rw [Hs.sub_all]
      cases own <;> simp
    · by_cases h2 : 2 ≤ n
      · have hc := Hs.cut_lt n h2
        have hp := Hs.cut_pos n
        cases e with
        | zero => simp at he; omega
        | succ e =>
          obtain ⟨he1, he2⟩ := cut_half n e h2 he
          by_cases hk : m ≤ Hs.cut n
          · rw [Hs.sub_left m l own (by omega) (by omega) (by rw [hl]; exact hk), List.length_append, List.length_singleton, hl]
            have := ih (Hs.cut n) hc e m (l.take (Hs.cut n)) own (by rw [← hl]; exact Hs.take_len l (by omega)) he1
            omega
          · rw [Hs.sub_right m l own (by omega) (by omega) (by rw [hl]; omega), List.length_append, List.length_singleton, hl]
            have := ih (n - Hs.cut n) (by omega) e (m - Hs.cut n) (l.drop (Hs.cut n)) false (by rw [List.length_drop, hl]) he2
            omega
      · rw [Hs.sub, if_neg (by omega), dif_neg (by omega)]; simp
theorem rsides_from (n : Nat) : ∀ (e i : Nat), i < n → n ≤ 2 ^ e → e ≤ 60 → Ev (fun k => sawyerref15_Sides.f k (i : Int) (n : Int)) (Hs.sides i n) := by
  induction n using Nat.strongRecOn with
  | ind n ih =>
    intro e i hi he he6
    have h60 : (2 : Nat) ^ e ≤ 2 ^ 60 := Nat.pow_le_pow_right (by omega) he6
    have hn : n ≤ 1152921504606846976 := Nat.le_trans he h60
    have hlen := sides_60 i n hn
    by_cases h2 : 2 ≤ n
    · have hc := Hs.cut_lt n h2
      have hp := Hs.cut_pos n
      have e0 := rcut_some n h2 (by omega)
      cases e with
      | zero => simp at he; omega
      | succ e =>
        obtain ⟨he1, he2⟩ := cut_half n e h2 he
        by_cases hk : i < Hs.cut n
        · have e1 := ih (Hs.cut n) hc e i hk he1 (by omega)
          rw [Hs.sides_left i n h2 hk, List.length_append, List.length_singleton] at hlen
          rw [Hs.sides_left i n h2 hk]
          refine Ev.step (fun k => ?_) (Ev.bind (f := fun k t425 => (if (i : Int) < t425 then ((sawyerref15_Sides.f k (i : Int) t425).bind fun t426 => (if t426.length < 140737488355328 then (some (t426 ++ [true])) else (none))) else ((sawyerref15_Sides.f k (wrap64 ((i : Int) - t425)) (wrap64 ((n : Int) - t425))).bind fun t432 => (if t432.length < 140737488355328 then (some (t432 ++ [false])) else (none))))) e0 (Ev.congr (f := fun k => (sawyerref15_Sides.f k (i : Int) (Hs.cut n : Int)).bind fun t426 => (if t426.length < 140737488355328 then (some (t426 ++ [true])) else (none))) (fun k => ?_) (Ev.bind (f := fun _ t426 => (if t426.length < 140737488355328 then (some (t426 ++ [true])) else (none))) e1 (Ev.congr (fun _ => ?_) (Ev.now _)))))
          · simp only [sawyerref15_Sides.f]
            rw [if_neg (by omega)]
          · rw [if_pos (by omega)]
          · rw [if_pos (by omega)]
        · have e1 := ih (n - Hs.cut n) (by omega) e (i - Hs.cut n) (by omega) he2 (by omega)
          rw [Hs.sides_right i n h2 (by omega), List.length_append, List.length_singleton] at hlen
          rw [Hs.sides_right i n h2 (by omega)]
          refine Ev.step (fun k => ?_) (Ev.bind (f := fun k t425 => (if (i : Int) < t425 then ((sawyerref15_Sides.f k (i : Int) t425).bind fun t426 => (if t426.length < 140737488355328 then (some (t426 ++ [true])) else (none))) else ((sawyerref15_Sides.f k (wrap64 ((i : Int) - t425)) (wrap64 ((n : Int) - t425))).bind fun t432 => (if t432.length < 140737488355328 then (some (t432 ++ [false])) else (none))))) e0 (Ev.congr (f := fun k => (sawyerref15_Sides.f k ((i - Hs.cut n : Nat) : Int) ((n - Hs.cut n : Nat) : Int)).bind fun t426 => (if t426.length < 140737488355328 then (some (t426 ++ [false])) else (none))) (fun k => ?_) (Ev.bind (f := fun _ t426 => (if t426.length < 140737488355328 then (some (t426 ++ [false])) else (none))) e1 (Ev.congr (fun _ => ?_) (Ev.now _)))))
          · simp only [sawyerref15_Sides.f]
            rw [if_neg (by omega)]
          · rw [if_neg (by omega), show wrap64 ((i : Int) - (Hs.cut n : Int)) = ((i - Hs.cut n : Nat) : Int) by unfold wrap64; omega, show wrap64 ((n : Int) - (Hs.cut n : Int)) = ((n - Hs.cut n : Nat) : Int) by unfold wrap64; omega]
          · rw [if_pos (by omega)]
    · rw [Hs.sides_few i n (by omega)]
      refine Ev.step (f := fun _ => some []) (fun k => ?_) (Ev.now _)
      simp only [sawyerref15_Sides.f]
      rw [if_pos (by omega)]
theorem rsides_ev (i n : Nat) (hi : i < n) (hn : n ≤ 1152921504606846976) : Ev (fun k => sawyerref15_Sides.f k (i : Int) (n : Int)) (Hs.sides i n) := rsides_from n 60 i hi hn (by omega)
/-- the leaf, and each node's hash, one behind the other -/
def climbs (x : ByteArray) : List Bool → List ByteArray → List ByteArray
  | [], _ => []
  | b :: bs, ps => Sha.sum (Hs.step b x (ps.headD ByteArray.empty)) :: climbs (Sha.sum (Hs.step b x (ps.headD ByteArray.empty))) bs ps.tail
theorem climbs_length (bs : List Bool) : ∀ x ps, (climbs x bs ps).length = bs.length := by
  induction bs with
  | nil => intro x ps; rfl
  | cons b bs ih => intro x ps; simp [climbs, ih]
theorem climbs_last (bs : List Bool) : ∀ (x : ByteArray) (ps : List ByteArray), (x :: climbs x bs ps).getD bs.length ByteArray.empty = Hs.climb x bs ps := by
  induction bs with
  | nil => intro x ps; rfl
  | cons b bs ih =>
    intro x ps
    have := ih (Sha.sum (Hs.step b x (ps.headD ByteArray.empty))) ps.tail
    simpa [climbs, Hs.climb] using this
theorem step_node (b : Bool) (x p : ByteArray) : Sha.sum (Hs.step b x p) = if b = true then Hs.node x p else Hs.node p x := by
  cases b <;> rfl
theorem rclimb_from (bs : List Bool) (ps : List ByteArray) (hl : ps.length = bs.length) (hb : bs.length ≤ 1000) (hs : smalls ps) (d : Nat) : ∀ (i : Nat) (x : ByteArray) (acc : List ByteArray), i + d = bs.length → small x → acc.length = i →
    Ev (fun k => sawyerref15_Climb.l0 k bs ps (acc ++ [x]) (i : Int)) (acc ++ x :: climbs x (bs.drop i) (ps.drop i)) := by
  induction d with
  | zero =>
    intro i x acc hi hx ha
    rw [List.drop_eq_nil_of_le (by omega)]
    refine Ev.step (f := fun _ => some _) (fun k => ?_) (Ev.now _)
    simp only [sawyerref15_Climb.l0]
    rw [if_neg (by omega)]
    rfl
  | succ d ih =>
    intro i x acc hi hx ha
    have h1 : i < bs.length := by omega
    have h2 : i < ps.length := by omega
    have hp : small ps[i] := hs _ (List.getElem_mem h2)
    have e := ih (i + 1) (Sha.sum (Hs.step bs[i] x ps[i])) (acc ++ [x]) (by omega) (small_sum _) (by simp [ha])
    rw [List.drop_eq_getElem_cons h1, List.drop_eq_getElem_cons h2]
    simp only [climbs, List.headD_cons, List.tail_cons]
    refine (congrArg (Ev _) (List.append_cons acc x _)).mpr ?_
    refine Ev.step (fun k => ?_) e
    have hal : ((acc ++ [x]).length : Int) = (i : Int) + 1 := by rw [List.length_append, List.length_singleton, ha]; omega
    have hx0 : rdOf ByteArray.empty (acc ++ [x]) (i : Int) = x := by
      rw [rdOf_n, List.getD_eq_getElem?_getD, List.getElem?_append_right (by omega), ha, Nat.sub_self]
      rfl
    have hw : wrap64 ((i : Int) + 1) = ((i + 1 : Nat) : Int) := by unfold wrap64; omega
    have hpx : rdOf ByteArray.empty ps (i : Int) = ps[i] := by rw [rdOf_n, List.getD_eq_getElem?_getD, List.getElem?_eq_getElem h2, Option.getD_some]
    have hbx : rdOf false bs (i : Int) = bs[i] := by rw [rdOf_b, List.getD_eq_getElem?_getD, List.getElem?_eq_getElem h1, Option.getD_some]
    simp only [sawyerref15_Climb.l0]
    rw [if_pos (by omega), if_pos (by omega), if_pos (by omega), hx0, hpx, hbx, step_node]
    cases hb' : bs[i] with
    | true => rw [if_pos rfl, if_pos (by omega), rnode_sm _ _ hx hp, Option.bind_some, if_pos (by rw [List.length_append, List.length_singleton]; omega), hw, if_pos rfl]
    | false => rw [if_neg (by simp), if_pos (by omega), rnode_sm _ _ hp hx, Option.bind_some, if_pos (by rw [List.length_append, List.length_singleton]; omega), hw, if_neg (by simp)]
theorem rclimb_ev (x : ByteArray) (bs : List Bool) (ps : List ByteArray) (hl : ps.length = bs.length) (hb : bs.length ≤ 1000) (hs : smalls ps) (hx : small x) : Ev (fun k => sawyerref15_Climb.f k x bs ps) (x :: climbs x bs ps) := by
  have := rclimb_from bs ps hl hb hs bs.length 0 x [] (by omega) hx rfl
  simpa [sawyerref15_Climb.f] using this
theorem rcheckPath_ev (leaf : ByteArray) (i n : Int) (path : List ByteArray) (root : ByteArray) (hpl : path.length ≤ 4611686018427387903) : Ev (fun k => sawyerref15_CheckPath.f k leaf i n path root) (checkPath leaf i n path root) := by
  unfold checkPath
  cases hp : placed i n with
  | false =>
    rw [if_pos rfl]
    refine Ev.congr (f := fun k => sawyerref15_CheckPath.j0 k leaf i n path root true) (fun k => ?_) (Ev.step (f := fun _ => some 8) (fun k => by simp only [sawyerref15_CheckPath.j0]; rfl) (Ev.now _))
    have hpn : ¬ (1 ≤ n ∧ n ≤ 1099511627776 ∧ 0 ≤ i ∧ i < n) := by
      rintro ⟨h1, h2, h3, h4⟩
      simp [placed, h1, h2, h3, h4] at hp
    unfold sawyerref15_CheckPath.f
    by_cases h1 : n < 1
    · rw [if_pos h1]
    · rw [if_neg h1]
      by_cases h2 : n > 1099511627776
      · rw [if_pos h2]
      · rw [if_neg h2]
        by_cases h3 : i < 0
        · rw [if_pos h3]
        · rw [if_neg h3, decide_eq_true (by omega)]
  | true =>
    rw [if_neg (by simp)]
    obtain ⟨a, b, rfl, rfl, hab, hb⟩ := placed_nat hp
    simp only [Int.toNat_natCast]
    have es := rsides_ev a b hab (by omega)
    have hsl := sides_60 a b (by omega)
    have key : ∀ R, Ev (fun k => if (path.length : Int) = ((Hs.sides a b).length : Int) then ((sawyerref15_whole.f k path).bind fun t457 => (if t457 = true then ((sawyerref15_whole.f k (([leaf, root] : List ByteArray))).bind fun t461 => (sawyerref15_CheckPath.j1 k leaf path root (Hs.sides a b) (!t461))) else (sawyerref15_CheckPath.j1 k leaf path root (Hs.sides a b) true))) else (sawyerref15_CheckPath.j1 k leaf path root (Hs.sides a b) true)) R → Ev (fun k => sawyerref15_CheckPath.f k leaf (a : Int) (b : Int) path root) R := by
      intro R hR
      refine Ev.congr (f := fun k => sawyerref15_CheckPath.j0 k leaf (a : Int) (b : Int) path root false) (fun k => ?_) (Ev.step (fun k => ?_) (Ev.bind (f := fun k t454 => (if (path.length : Int) = (t454.length : Int) then ((sawyerref15_whole.f k path).bind fun t457 => (if t457 = true then ((sawyerref15_whole.f k (([leaf, root] : List ByteArray))).bind fun t461 => (sawyerref15_CheckPath.j1 k leaf path root t454 (!t461))) else (sawyerref15_CheckPath.j1 k leaf path root t454 true))) else (sawyerref15_CheckPath.j1 k leaf path root t454 true))) es hR))
      · unfold sawyerref15_CheckPath.f
        rw [if_neg (by omega), if_neg (by omega), if_neg (by omega), decide_eq_false (by omega)]
      · simp only [sawyerref15_CheckPath.j0]
        rw [if_neg (by simp)]
    have nine : Ev (fun k => sawyerref15_CheckPath.j1 k leaf path root (Hs.sides a b) true) 9 := Ev.step (f := fun _ => some 9) (fun k => by simp only [sawyerref15_CheckPath.j1]; rfl) (Ev.now _)
    apply key
    by_cases hlen : path.length = (Hs.sides a b).length
    · have w1 := rwhole_some path (by omega)
      have w2 := rwhole_some [leaf, root] (by simp)
      have h0 : ∀ R, Ev (fun k => (if wholeB path = true then ((sawyerref15_whole.f k (([leaf, root] : List ByteArray))).bind fun t461 => (sawyerref15_CheckPath.j1 k leaf path root (Hs.sides a b) (!t461))) else (sawyerref15_CheckPath.j1 k leaf path root (Hs.sides a b) true))) R → Ev (fun k => if (path.length : Int) = ((Hs.sides a b).length : Int) then ((sawyerref15_whole.f k path).bind fun t457 => (if t457 = true then ((sawyerref15_whole.f k (([leaf, root] : List ByteArray))).bind fun t461 => (sawyerref15_CheckPath.j1 k leaf path root (Hs.sides a b) (!t461))) else (sawyerref15_CheckPath.j1 k leaf path root (Hs.sides a b) true))) else (sawyerref15_CheckPath.j1 k leaf path root (Hs.sides a b) true)) R := fun R hR => Ev.congr (fun k => if_pos (by omega)) (Ev.bind (f := fun k t457 => (if t457 = true then ((sawyerref15_whole.f k (([leaf, root] : List ByteArray))).bind fun t461 => (sawyerref15_CheckPath.j1 k leaf path root (Hs.sides a b) (!t461))) else (sawyerref15_CheckPath.j1 k leaf path root (Hs.sides a b) true))) w1 hR)
      apply h0
      cases hw1 : wholeB path with
      | false =>
        rw [if_pos (.inr (.inl rfl))]
        exact Ev.congr (fun k => if_neg (by simp)) nine
      | true =>
        have h3 : ∀ R, Ev (fun k => sawyerref15_CheckPath.j1 k leaf path root (Hs.sides a b) (!(wholeB [leaf, root]))) R → Ev (fun k => (if true = true then ((sawyerref15_whole.f k (([leaf, root] : List ByteArray))).bind fun t461 => (sawyerref15_CheckPath.j1 k leaf path root (Hs.sides a b) (!t461))) else (sawyerref15_CheckPath.j1 k leaf path root (Hs.sides a b) true))) R := fun R hR => Ev.congr (fun k => if_pos rfl) (Ev.bind (f := fun k t461 => sawyerref15_CheckPath.j1 k leaf path root (Hs.sides a b) (!t461)) w2 hR)
        apply h3
        cases hw2 : wholeB [leaf, root] with
        | false =>
          rw [if_pos (.inr (.inr rfl))]
          exact nine
        | true =>
          rw [if_neg (by simp [hlen])]
          have hcl := rclimb_ev leaf (Hs.sides a b) path hlen (by omega) (wholeB_small _ hw1) (wholeB_small _ hw2 leaf (by simp))
          have hcn : (leaf :: climbs leaf (Hs.sides a b) path).length = (Hs.sides a b).length + 1 := by simp [climbs_length]
          refine Ev.step (fun k => ?_) (Ev.bind (f := fun _ t462 => (if 0 ≤ (wrap64 ((t462.length : Int) - 1)) then (if (wrap64 ((t462.length : Int) - 1)) < (t462.length : Int) then (if (rdOf ByteArray.empty t462 (wrap64 ((t462.length : Int) - 1))).toList = root.toList then (some 0) else (some 9)) else (none)) else (none))) hcl (Ev.congr (fun _ => ?_) (Ev.now _)))
          · simp only [sawyerref15_CheckPath.j1]
            rw [if_neg (by simp)]
          · rw [hcn, show wrap64 ((((Hs.sides a b).length + 1 : Nat) : Int) - 1) = ((Hs.sides a b).length : Int) by unfold wrap64; omega, if_pos (by omega), if_pos (by omega), rdOf_n, climbs_last]
            by_cases ht : Hs.climb leaf (Hs.sides a b) path = root
            · rw [if_pos (by rw [ht]), if_pos ht]
            · rw [if_neg (fun e => ht (toList_inj e)), if_neg ht]
    · rw [if_pos (.inl hlen)]
      refine Ev.congr (fun k => ?_) nine
      rw [if_neg (by omega)]
end Go.Proofs.Ytkbbdbnjplcjdaa.F
end
