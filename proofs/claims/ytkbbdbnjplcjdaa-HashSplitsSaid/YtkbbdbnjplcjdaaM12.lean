-- JOINED BY A PROGRAM OF THIS PLACE (wip/tools/pack.py) out of: Ref15Node HsRef
import Derived.Lib.AtoiErrMem
import Derived.Test.YtkbbdbnjplcjdaaM0
import Derived.Test.YtkbbdbnjplcjdaaM2
import Derived.Test.YtkbbdbnjplcjdaaM3
import Derived.Test.YtkbbdbnjplcjdaaM8
import Derived.Test.YtkbbdbnjplcjdaaM10
import Derived.Test.YtkbbdbnjplcjdaaM11
section
/-
  sawyerref15.Node: the hash of a node, as the plain text Hs has it.
-/
namespace Go.Proofs.Ytkbbdbnjplcjdaa
open Go.RowKit Go.Proofs.YtkbbdbnjplcjdaaW.PrintWords Go.Proofs.YtkbbdbnjplcjdaaW.PrintLast Go.Proofs.YtkbbdbnjplcjdaaW.PrintMore
set_option linter.unusedVariables false
set_option linter.unusedSimpArgs false
/-- a node's two sides may be hashed: they are not too long -/
def nodeOk (a b : ByteArray) : Bool := decide (a.size + b.size ≤ 140737488354000)
def sawyerref15_Node.f (a0 a1 : ByteArray) : Option ByteArray := if nodeOk a0 a1 = true then some (Hs.node a0 a1) else none
theorem one_append (a b : ByteArray) : (⟨#[1]⟩ : ByteArray) ++ a ++ b = (⟨#[1]⟩ : ByteArray) ++ (a ++ b) := ByteArray.append_assoc
theorem joined_bytes (a b : ByteArray) : bytesOf ((⟨#[1]⟩ : ByteArray) ++ a ++ b) = Hs.joined a b := by
  rw [one_append]
  unfold Hs.joined bytesOf
  simp [ByteArray.data_append]
set_option maxHeartbeats 1000000 in
set_option maxRecDepth 100000 in
theorem sawyerref15_Node.calls (a0 a1 : ByteArray) (r : ByteArray) (w : World) (h : sawyerref15_Node.f a0 a1 = some r) :
    Calls Try.prog 17 #[.string a0, .string a1] w fun e w' => e = .returned (.string r) ∧ Below w.heap.size w w' := by
  unfold sawyerref15_Node.f at h
  split at h
  case isFalse => cases h
  rename_i hok
  obtain rfl := Option.some.inj h
  clear h
  have hsz : a0.size + a1.size ≤ 140737488354000 := of_decide_eq_true hok
  have HSZ := Lib.hid hsz
  have hn1 : ¬ 9223372036854775807 < 1 + a0.size := by omega
  have hn2 : ¬ 9223372036854775807 < 1 + a0.size + a1.size := by omega
  clear hok hsz
  have hcv := fun w => Lib.run_convert_string_bytes (P := Try.prog) w 9 23 5 ((⟨#[1]⟩ : ByteArray) ++ a0 ++ a1) Try.underlying9 Try.underlying23 Try.underlying5
  go_enter Try.func17, Try.ntmps17
  go_wp2_with fail
  have hmk := marked_conv w ((⟨#[1]⟩ : ByteArray) ++ a0 ++ a1) (by rw [ByteArray.size_append, ByteArray.size_append]; have := HSZ.out; show 1 + a0.size + a1.size ≤ maxLen; unfold maxLen; omega)
  have hbw := Lib.bytesWorld_below w 5 ((⟨#[1]⟩ : ByteArray) ++ a0 ++ a1)
  have hjb := joined_bytes a0 a1
  have hjl : ((⟨#[1]⟩ : ByteArray) ++ a0 ++ a1).size = (Hs.joined a0 a1).length := by rw [← hjb, bytesOf_length]
  rw [hjb] at hmk
  clear hcv
  have hjl2 : 1 + a0.size + a1.size = (Hs.joined a0 a1).length := by rw [← hjl, ByteArray.size_append, ByteArray.size_append]; rfl
  rw [hjl] at hmk
  rw [hjl2]
  generalize grownCap w (Hs.joined a0 a1).length 0 5 = ck at *
  generalize Lib.bytesWorld w 5 ((⟨#[1]⟩ : ByteArray) ++ a0 ++ a1) = W at *
  obtain ⟨A, c, e, hle, hrd⟩ := any_reads (.inr hmk)
  cases e
  have hok : Sha.ok (Hs.joined a0 a1) = true := by
    rw [F.ok_iff]
    refine ⟨?_, ?_⟩
    · rw [← hjb]; exact bytesOf_range _
    · rw [← hjl, ByteArray.size_append, ByteArray.size_append]
      have := HSZ.out
      show 1 + a0.size + a1.size ≤ _
      omega
  obtain ⟨k, hk⟩ := (F.ref_sum _ hok).rounds
  have HB := Lib.hid hbw
  clear hbw hjb hjl hok hmk
  refine (F.sawyerref01_Sum.calls k _ _ (Hs.joined a0 a1) _ W hrd hle hk).mono ?_
  rintro e w3 ⟨rfl, hb3⟩
  have HB3 := Lib.hid (below_then HB.out HB.out.size hb3)
  clear hb3 hrd hk
  go_wp2
  go_ret
  exact ⟨rfl, HB3.out⟩
end Go.Proofs.Ytkbbdbnjplcjdaa
end
section
/-
  The document's Cut, whole, Leaf, Node, Same, as the plain text Hs has them.
-/
namespace Go.Proofs.Ytkbbdbnjplcjdaa.F
open Go.RowKit Go.Proofs.Ytkbbdbnjplcjdaa Go.Proofs.YtkbbdbnjplcjdaaW.PrintWords Go.Proofs.YtkbbdbnjplcjdaaW.PrintLast Go.Proofs.YtkbbdbnjplcjdaaW.PrintMore
set_option linter.unusedVariables false
set_option linter.unusedSimpArgs false
theorem rcut_from (n E : Nat) (hn : n ≤ 2305843009213693952) (h1 : 2 ^ E < n) (h2 : n ≤ 2 * 2 ^ E) (d : Nat) : ∀ e, e + d = E → Ev (fun k => sawyerref15_Cut.l0 k (n : Int) ((2 ^ e : Nat) : Int)) ((2 ^ E : Nat) : Int) := by
  induction d with
  | zero =>
    intro e he
    obtain rfl : e = E := by omega
    refine Ev.step (f := fun _ => some _) (fun k => ?_) (Ev.now _)
    simp only [sawyerref15_Cut.l0]
    rw [if_neg (by unfold wrap64; omega)]
  | succ d ih =>
    intro e he
    have hle : 2 ^ (e + 1) ≤ 2 ^ E := Nat.pow_le_pow_right (by omega) (by omega)
    have hp : 2 ^ (e + 1) = 2 * 2 ^ e := by rw [Nat.pow_succ]; omega
    have hw : wrap64 (2 * ((2 ^ e : Nat) : Int)) = ((2 ^ (e + 1) : Nat) : Int) := by
      rw [hp]
      unfold wrap64
      omega
    refine Ev.step (fun k => ?_) (ih (e + 1) (by omega))
    simp only [sawyerref15_Cut.l0]
    rw [hw, if_pos (by omega)]
theorem rcut_some (n : Nat) (h : 2 ≤ n) (hn : n ≤ 2305843009213693952) : Ev (fun k => sawyerref15_Cut.f k (n : Int)) (Hs.cut n : Int) := by
  have a := Hs.cut_lt n h
  have b := Hs.cut_two n h
  unfold Hs.cut at a b ⊢
  exact rcut_from n _ hn a b _ 0 (Nat.zero_add _)
theorem rdOf_nat (l : List ByteArray) (i : Nat) : rdOf ByteArray.empty l (i : Int) = l.getD i ByteArray.empty := by
  simp [rdOf]
theorem rwhole_from (l : List ByteArray) (hl : l.length ≤ 9223372036854775806) (d : Nat) : ∀ i, i + d = l.length → Ev (fun k => sawyerref15_whole.l0 k l (i : Int)) ((l.drop i).all fun s => decide (s.size = 32)) := by
  induction d with
  | zero =>
    intro i hi
    refine Ev.step (f := fun _ => some _) (fun k => ?_) (Ev.now _)
    simp only [sawyerref15_whole.l0]
    rw [if_neg (by omega), List.drop_eq_nil_of_le (by omega)]
    rfl
  | succ d ih =>
    intro i hi
    have hlt : i < l.length := by omega
    rw [List.drop_eq_getElem_cons hlt, List.all_cons]
    by_cases h32 : (l[i]).size = 32
    · rw [decide_eq_true h32, Bool.true_and]
      refine Ev.step (fun k => ?_) (ih (i + 1) (by omega))
      simp only [sawyerref15_whole.l0]
      rw [if_pos (by omega), if_pos (by omega), rdOf_nat, List.getD_eq_getElem?_getD, List.getElem?_eq_getElem hlt, Option.getD_some, if_pos (by rw [h32]; rfl), show wrap64 ((i : Int) + 1) = ((i + 1 : Nat) : Int) by unfold wrap64; omega]
    · rw [decide_eq_false h32, Bool.false_and]
      refine Ev.step (f := fun _ => some _) (fun k => ?_) (Ev.now _)
      simp only [sawyerref15_whole.l0]
      rw [if_pos (by omega), if_pos (by omega), rdOf_nat, List.getD_eq_getElem?_getD, List.getElem?_eq_getElem hlt, Option.getD_some, if_neg (by omega)]
theorem rwhole_some (l : List ByteArray) (hl : l.length ≤ 9223372036854775806) : Ev (fun k => sawyerref15_whole.f k l) (wholeB l) := by
  have := rwhole_from l hl l.length 0 (by omega)
  simpa [sawyerref15_whole.f, wholeB] using this
theorem rleaf_some (l : List Int) (hb : ∀ x ∈ l, 0 ≤ x ∧ x < 256) (h : l.length ≤ 140737488354000) : Ev (fun k => sawyerref15_Leaf.f k l) (Hs.leaf l) := by
  have hok : Sha.ok ([0] ++ l) = true := by
    rw [ok_iff]
    refine ⟨fun x hx => ?_, by simp; omega⟩
    rcases List.mem_append.1 hx with hx | hx
    · rw [List.mem_singleton.1 hx]; omega
    · exact hb x hx
  refine Ev.congr (f := fun k => (sawyerref01_Sum.f k ([0] ++ l)).bind fun t => some t) (fun k => ?_) (Ev.bind (f := fun _ t => some t) (ref_sum _ hok) (Ev.now _))
  unfold sawyerref15_Leaf.f
  rw [Option.bind_some, if_pos (by simp; omega)]
theorem rnode_some (a b : ByteArray) (h : a.size + b.size ≤ 140737488354000) : sawyerref15_Node.f a b = some (Hs.node a b) := if_pos (decide_eq_true h)
theorem same_from (l : List ByteArray) (hl : l.length ≤ 9223372036854775806) (d : Nat) : ∀ i, i + d = l.length → Ev (fun k => sawyerref15_Same.l0 k l l (i : Int)) true := by
  induction d with
  | zero =>
    intro i hi
    refine Ev.step (f := fun _ => some _) (fun k => ?_) (Ev.now _)
    simp only [sawyerref15_Same.l0]
    rw [if_neg (by omega)]
  | succ d ih =>
    intro i hi
    refine Ev.step (fun k => ?_) (ih (i + 1) (by omega))
    simp only [sawyerref15_Same.l0]
    rw [show wrap64 ((i : Int) + 1) = ((i + 1 : Nat) : Int) by unfold wrap64; omega]
    have hlt : i < l.length := by omega
    simp [hlt]
theorem same_some (l : List ByteArray) (hl : l.length ≤ 9223372036854775806) : Ev (fun k => sawyerref15_Same.f k l l) true := by
  have := same_from l hl l.length 0 (by omega)
  simpa [sawyerref15_Same.f] using this
end Go.Proofs.Ytkbbdbnjplcjdaa.F
end
