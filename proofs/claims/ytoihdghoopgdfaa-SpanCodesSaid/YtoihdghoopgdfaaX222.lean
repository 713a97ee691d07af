-- JOINED BY A PROGRAM OF THIS PLACE (wip/tools/pack.py) out of: SpPlain SpRef
import Derived.Test.YtoihdghoopgdfaaX25
import Derived.Test.YtoihdghoopgdfaaX213
import Derived.Test.YtoihdghoopgdfaaX220
section
/-
  What a leaf makes of a span, as plain lists.
-/
namespace Go.Proofs.Ytoihdghoopgdfaa.Sp
open Go.RowKit Go.Proofs.Ytoihdghoopgdfaa Go.Proofs.YtoihdghoopgdfaaW.PrintWords
set_option linter.unusedVariables false
set_option linter.unusedSimpArgs false
/-- the last two as one -/
def join2 (l : List ByteArray) : List ByteArray := l.take (l.length - 2) ++ [Hs.node (l.getD (l.length - 2) ByteArray.empty) (l.getD (l.length - 1) ByteArray.empty)]
/-- as long as the number is odd -/
def carry : Nat → Nat → List ByteArray → List ByteArray
  | 0, _, l => l
  | f + 1, n, l => if n % 2 = 1 then carry f (n / 2) (join2 l) else l
def pushed (a : Int) (l : List ByteArray) (leaf : ByteArray) : Int × List ByteArray × Int := if spanOk a l = true ∧ a ≠ 1099511627776 ∧ leaf.size = 32 then (a + 1, carry 64 a.toNat (l ++ [leaf]), 0) else (0, [], 1)
def sized (l : List ByteArray) : Prop := ∀ x ∈ l, x.size = 32
theorem sized_of {l : List ByteArray} (h : wholeB l = true) : sized l := by
  intro x hx
  have := List.all_eq_true.1 h x hx
  simpa using this
theorem wholeB_of_sized {l : List ByteArray} (h : sized l) : wholeB l = true := by
  unfold wholeB
  rw [List.all_eq_true]
  intro x hx
  simpa using h x hx
theorem sized_snoc {l : List ByteArray} {x : ByteArray} (h : sized l) (hx : x.size = 32) : sized (l ++ [x]) := by
  intro y hy
  rcases List.mem_append.1 hy with hy | hy
  · exact h y hy
  · rw [List.mem_singleton.1 hy]; exact hx
theorem sized_take {l : List ByteArray} (h : sized l) (k : Nat) : sized (l.take k) := fun x hx => h x (List.mem_of_mem_take hx)
theorem sized_get {l : List ByteArray} (h : sized l) (i : Nat) (hi : i < l.length) : (l.getD i ByteArray.empty).size = 32 := by
  rw [List.getD_eq_getElem?_getD, List.getElem?_eq_getElem hi]
  exact h _ (List.getElem_mem hi)
theorem join2_sized {l : List ByteArray} (h : sized l) : sized (join2 l) := sized_snoc (sized_take h _) (Hs.node_size _ _)
theorem join2_length (l : List ByteArray) (h : 2 ≤ l.length) : (join2 l).length = l.length - 1 := by
  simp [join2]
  omega
theorem pop_odd (f n : Nat) (h : n % 2 = 1) : Pop.popAux (f + 1) n = Pop.popAux f (n / 2) + 1 := by
  rw [Pop.popAux, h, Nat.add_comm]
theorem pop_le (f n : Nat) : Pop.popAux f n ≤ f := Pop.pop_le f n
/-- the state at the label: what is left to be done gives what is asked for -/
def At (r : List ByteArray) (n : Nat) (l : List ByteArray) : Prop := ∃ f, (f ≤ 64 ∧ n ≤ 1099511627776) ∧ n < 2 ^ f ∧ l.length = Pop.popAux f n + 1 ∧ sized l ∧ carry f n l = r
theorem At.start {a : Int} {l : List ByteArray} {leaf : ByteArray} (h : spanOk a l = true) (hx : leaf.size = 32) : At (carry 64 a.toNat (l ++ [leaf])) a.toNat (l ++ [leaf]) := by
  obtain ⟨h1, h2, h3, h4⟩ := (spanOk_iff a l).1 h
  refine ⟨64, ⟨Nat.le_refl _, by omega⟩, by omega, ?_, sized_snoc (sized_of h4) hx, rfl⟩
  unfold onesOf at h3
  simp
  omega
theorem At.bound {r : List ByteArray} {n : Nat} {l : List ByteArray} (h : At r n l) : l.length ≤ 65 ∧ n ≤ 1099511627776 := by
  obtain ⟨f, hf, hn, hl, hs, hc⟩ := h
  have h2 := pop_le f n
  omega
theorem At.even {r : List ByteArray} {n : Nat} {l : List ByteArray} (h : At r n l) (he : n % 2 ≠ 1) : l = r := by
  obtain ⟨f, hf, hn, hl, hs, hc⟩ := h
  cases f with
  | zero => exact hc
  | succ f =>
    rw [carry, if_neg he] at hc
    exact hc
theorem At.two {r : List ByteArray} {n : Nat} {l : List ByteArray} (h : At r n l) (ho : n % 2 = 1) : 2 ≤ l.length ∧ (l.getD (l.length - 2) ByteArray.empty).size = 32 ∧ (l.getD (l.length - 1) ByteArray.empty).size = 32 := by
  obtain ⟨f, hf, hn, hl, hs, hc⟩ := h
  cases f with
  | zero =>
    simp at hn
    omega
  | succ f =>
    rw [pop_odd f n ho] at hl
    exact ⟨by omega, sized_get hs _ (by omega), sized_get hs _ (by omega)⟩
theorem At.next {r : List ByteArray} {n : Nat} {l : List ByteArray} (h : At r n l) (ho : n % 2 = 1) : At r (n / 2) (join2 l) := by
  have h2 := (h.two ho).1
  obtain ⟨f, hf, hn, hl, hs, hc⟩ := h
  cases f with
  | zero =>
    simp at hn
    omega
  | succ f =>
    rw [pop_odd f n ho] at hl
    rw [carry, if_pos ho] at hc
    rw [Nat.pow_succ] at hn
    exact ⟨f, ⟨by omega, by omega⟩, by omega, by rw [join2_length l h2]; omega, join2_sized hs, hc⟩
theorem and1 (n : Nat) (hn : n < 9223372036854775808) : Go.bits .and .i64 (n : Int) 1 = ((n % 2 : Nat) : Int) := by
  rw [show (1 : Int) = ((1 : Nat) : Int) from rfl, (bits_nat .i64 63 (by decide) (fun n h0 h1 => by rw [IntKind.wrap_i64]; omega) n 1 (by simpa using hn) (by decide)).1, Nat.and_one_is_mod]
end Go.Proofs.Ytoihdghoopgdfaa.Sp
end
section
/-
  The document's answers for spans as plain lists: ones, Check.
-/
namespace Go.Proofs.Ytoihdghoopgdfaa.F
open Go.RowKit Go.Proofs.Ytoihdghoopgdfaa Go.Proofs.YtoihdghoopgdfaaW.PrintWords Go.Proofs.YtoihdghoopgdfaaW.PrintLast Go.Proofs.YtoihdghoopgdfaaW.PrintMore
set_option linter.unusedVariables false
set_option linter.unusedSimpArgs false
theorem ones_from (f : Nat) : ∀ (n : Nat) (acc : Nat), n < 2 ^ f → n ≤ 1099511627776 → acc + f ≤ 1000 → Ev (fun k => sawyerref16_ones.l0 k (n : Int) (acc : Int)) ((acc + Pop.popAux f n : Nat) : Int) := by
  induction f with
  | zero =>
    intro n acc hn _ ha
    obtain rfl : n = 0 := by simpa using hn
    refine Ev.step (f := fun _ => some _) (fun k => ?_) (Ev.now _)
    simp only [sawyerref16_ones.l0]
    rw [if_neg (by omega)]
    rfl
  | succ f ih =>
    intro n acc hn hm ha
    rw [Nat.pow_succ] at hn
    by_cases h0 : n = 0
    · subst h0
      have hz : ∀ g, Pop.popAux g 0 = 0 := by
        intro g
        induction g with
        | zero => rfl
        | succ g ihg => rw [Pop.popAux, Nat.zero_div, ihg]
      rw [hz]
      refine Ev.step (f := fun _ => some _) (fun k => ?_) (Ev.now _)
      simp only [sawyerref16_ones.l0]
      rw [if_neg (by omega)]
      rfl
    · have e1 : wrap64 (Int.tdiv (n : Int) 2) = ((n / 2 : Nat) : Int) := by
        rw [show Int.tdiv (n : Int) 2 = ((n / 2 : Nat) : Int) from rfl]
        unfold wrap64
        omega
      have e2 : wrap64 ((acc : Int) + Int.tmod (n : Int) 2) = ((acc + n % 2 : Nat) : Int) := by
        rw [show Int.tmod (n : Int) 2 = ((n % 2 : Nat) : Int) from rfl]
        unfold wrap64
        omega
      have := ih (n / 2) (acc + n % 2) (by omega) (by omega) (by omega)
      rw [Pop.popAux, ← Nat.add_assoc]
      refine Ev.step (fun k => ?_) this
      simp only [sawyerref16_ones.l0]
      rw [if_pos (by omega), e1, e2]
theorem ones_ev (a : Int) (h0 : 0 ≤ a) (h1 : a ≤ 1099511627776) : Ev (fun k => sawyerref16_ones.f k a) (onesOf a) := by
  obtain ⟨n, rfl⟩ := Int.eq_ofNat_of_zero_le h0
  have := ones_from 64 n 0 (by omega) (by omega) (by omega)
  rw [Nat.zero_add] at this
  unfold onesOf
  rw [Int.toNat_natCast]
  exact this
theorem rdOf_nat' (l : List ByteArray) (i : Nat) : rdOf ByteArray.empty l (i : Int) = l.getD i ByteArray.empty := by
  simp [rdOf]
theorem check_from (a : Int) (l : List ByteArray) (hl : l.length ≤ 9223372036854775806) (d : Nat) : ∀ i, i + d = l.length → Ev (fun k => sawyerref16_Check.l0 k (i : Int) a l) (if ((l.drop i).all fun s => decide (s.size = 32)) = true then 0 else 1) := by
  induction d with
  | zero =>
    intro i hi
    refine Ev.step (f := fun _ => some _) (fun k => ?_) (Ev.now _)
    simp only [sawyerref16_Check.l0]
    rw [if_neg (by omega), List.drop_eq_nil_of_le (by omega)]
    rfl
  | succ d ih =>
    intro i hi
    have hlt : i < l.length := by omega
    rw [List.drop_eq_getElem_cons hlt, List.all_cons]
    by_cases h32 : (l[i]).size = 32
    · rw [decide_eq_true h32, Bool.true_and]
      refine Ev.step (fun k => ?_) (ih (i + 1) (by omega))
      simp only [sawyerref16_Check.l0]
      rw [if_pos (by omega), if_pos (by omega), rdOf_nat', List.getD_eq_getElem?_getD, List.getElem?_eq_getElem hlt, Option.getD_some, if_pos (by rw [h32]; rfl), show wrap64 ((i : Int) + 1) = ((i + 1 : Nat) : Int) by unfold wrap64; omega]
    · rw [decide_eq_false h32, Bool.false_and]
      refine Ev.step (f := fun _ => some _) (fun k => ?_) (Ev.now _)
      simp only [sawyerref16_Check.l0]
      rw [if_pos (by omega), if_pos (by omega), rdOf_nat', List.getD_eq_getElem?_getD, List.getElem?_eq_getElem hlt, Option.getD_some, if_neg (by omega)]
      rfl
theorem check_ev (a : Int) (l : List ByteArray) (hl : l.length ≤ 9223372036854775806) : Ev (fun k => sawyerref16_Check.f k a l) (if spanOk a l = true then 0 else 1) := by
  by_cases h0 : a < 0
  · rw [span_no (fun e => by omega)]
    refine Ev.congr (f := fun k => sawyerref16_Check.j0 k true a l) (fun k => ?_) (Ev.step (f := fun _ => some _) (fun k => ?_) (Ev.now _))
    · unfold sawyerref16_Check.f
      rw [if_pos h0]
    · simp only [sawyerref16_Check.j0]
      rfl
  · by_cases h1 : a > 1099511627776
    · rw [span_no (fun e => by omega)]
      refine Ev.congr (f := fun k => sawyerref16_Check.j0 k true a l) (fun k => ?_) (Ev.step (f := fun _ => some _) (fun k => ?_) (Ev.now _))
      · unfold sawyerref16_Check.f
        rw [if_neg h0, if_pos h1]
      · simp only [sawyerref16_Check.j0]
        rfl
    · refine Ev.congr (f := fun k => (sawyerref16_ones.f k a).bind fun t => sawyerref16_Check.j0 k ((l.length : Int) != t) a l) (fun k => ?_) (Ev.bind (f := fun k t => sawyerref16_Check.j0 k ((l.length : Int) != t) a l) (ones_ev a (by omega) (by omega)) ?_)
      · unfold sawyerref16_Check.f
        rw [if_neg h0, if_neg h1]
      · by_cases hl2 : (l.length : Int) = onesOf a
        · have e : ((l.length : Int) != onesOf a) = false := by simpa using hl2
          rw [e]
          have := check_from a l hl l.length 0 (by omega)
          rw [List.drop_zero] at this
          have hw : (if spanOk a l = true then (0 : Int) else 1) = if wholeB l = true then 0 else 1 := by
            by_cases hw : wholeB l = true
            · rw [if_pos hw, span_yes ⟨by omega, by omega, hl2, hw⟩]
            · rw [if_neg hw, span_no (fun e => hw e.2.2.2)]
          rw [hw]
          refine Ev.step (fun k => ?_) this
          simp only [sawyerref16_Check.j0]
          rfl
        · have e : ((l.length : Int) != onesOf a) = true := by simpa using hl2
          rw [e, span_no (fun e => hl2 e.2.2.1)]
          refine Ev.step (f := fun _ => some _) (fun k => ?_) (Ev.now _)
          simp only [sawyerref16_Check.j0]
          rfl
end Go.Proofs.Ytoihdghoopgdfaa.F
end
