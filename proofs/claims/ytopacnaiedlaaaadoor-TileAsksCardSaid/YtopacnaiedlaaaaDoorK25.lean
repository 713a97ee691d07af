-- JOINED BY A PROGRAM OF THIS PLACE (wip/tools/pack.py) out of: Ref15Node
import Derived.Lib.AtoiErrMem
import Derived.Test.YtopacnaiedlaaaaDoorK4
import Derived.Test.YtopacnaiedlaaaaDoorK14
import Derived.Test.YtopacnaiedlaaaaDoorK24
section
/-
  sawyerref15.Node: the hash of a node, as the plain text Hs has it.
-/
namespace Go.Proofs.YtopacnaiedlaaaaDoor
open Go.RowKit Go.Proofs.YtopacnaiedlaaaaDoorW.PrintWords Go.Proofs.YtopacnaiedlaaaaDoorW.PrintLast Go.Proofs.YtopacnaiedlaaaaDoorW.PrintMore
set_option linter.unusedVariables false
set_option linter.unusedSimpArgs false
/-- a node's two sides may be hashed: they are not too long -/
def nodeOk (a b : ByteArray) : Bool := decide (a.size + b.size ≤ 140737488354000)
def sawyerref15_Node.f (a0 a1 : ByteArray) : Option ByteArray := if nodeOk a0 a1 = true then some (Hs.node a0 a1) else none
theorem one_append (a b : ByteArray) : (⟨#[1]⟩ : ByteArray) ++ a ++ b = (⟨#[1]⟩ : ByteArray) ++ (a ++ b) := ByteArray.append_assoc
theorem joined_bytes (a b : ByteArray) : bytesOf ((⟨#[1]⟩ : ByteArray) ++ a ++ b) = Hs.joined a b := by
  rw [one_append]
  unfold Hs.joined bytesOf
  simp [ByteArray.data_append]
set_option maxHeartbeats 1000000 in
set_option maxRecDepth 100000 in
theorem sawyerref15_Node.calls (a0 a1 : ByteArray) (r : ByteArray) (w : World) (h : sawyerref15_Node.f a0 a1 = some r) :
    Calls Tryd.prog 43 #[.string a0, .string a1] w fun e w' => e = .returned (.string r) ∧ Below w.heap.size w w' := by
  unfold sawyerref15_Node.f at h
  split at h
  case isFalse => cases h
  rename_i hok
  obtain rfl := Option.some.inj h
  clear h
  have hsz : a0.size + a1.size ≤ 140737488354000 := of_decide_eq_true hok
  have HSZ := Lib.hid hsz
  have hn1 : ¬ 9223372036854775807 < 1 + a0.size := by omega
  have hn2 : ¬ 9223372036854775807 < 1 + a0.size + a1.size := by omega
  clear hok hsz
  have hcv := fun w => Lib.run_convert_string_bytes (P := Tryd.prog) w 9 76 5 ((⟨#[1]⟩ : ByteArray) ++ a0 ++ a1) Tryd.underlying9 Tryd.underlying76 Tryd.underlying5
  go_enter Tryd.func43, Tryd.ntmps43
  go_wp2_with fail
  have hmk := marked_conv w ((⟨#[1]⟩ : ByteArray) ++ a0 ++ a1) (by rw [ByteArray.size_append, ByteArray.size_append]; have := HSZ.out; show 1 + a0.size + a1.size ≤ maxLen; unfold maxLen; omega)
  have hbw := Lib.bytesWorld_below w 5 ((⟨#[1]⟩ : ByteArray) ++ a0 ++ a1)
  have hjb := joined_bytes a0 a1
  have hjl : ((⟨#[1]⟩ : ByteArray) ++ a0 ++ a1).size = (Hs.joined a0 a1).length := by rw [← hjb, bytesOf_length]
  rw [hjb] at hmk
  clear hcv
  have hjl2 : 1 + a0.size + a1.size = (Hs.joined a0 a1).length := by rw [← hjl, ByteArray.size_append, ByteArray.size_append]; rfl
  rw [hjl] at hmk
  rw [hjl2]
  generalize grownCap w (Hs.joined a0 a1).length 0 5 = ck at *
  generalize Lib.bytesWorld w 5 ((⟨#[1]⟩ : ByteArray) ++ a0 ++ a1) = W at *
  obtain ⟨A, c, e, hle, hrd⟩ := any_reads (.inr hmk)
  cases e
  have hok : Sha.ok (Hs.joined a0 a1) = true := by
    rw [F.ok_iff]
    refine ⟨?_, ?_⟩
    · rw [← hjb]; exact bytesOf_range _
    · rw [← hjl, ByteArray.size_append, ByteArray.size_append]
      have := HSZ.out
      show 1 + a0.size + a1.size ≤ _
      omega
  obtain ⟨k, hk⟩ := (F.ref_sum _ hok).rounds
  have HB := Lib.hid hbw
  clear hbw hjb hjl hok hmk
  refine (F.sawyerref01_Sum.calls k _ _ (Hs.joined a0 a1) _ W hrd hle hk).mono ?_
  rintro e w3 ⟨rfl, hb3⟩
  have HB3 := Lib.hid (below_then HB.out HB.out.size hb3)
  clear hb3 hrd hk
  go_wp2
  go_ret
  exact ⟨rfl, HB3.out⟩
end Go.Proofs.YtopacnaiedlaaaaDoor
end
