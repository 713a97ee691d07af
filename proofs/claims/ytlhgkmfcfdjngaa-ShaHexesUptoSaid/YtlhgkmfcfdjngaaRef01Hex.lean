/-
  The document's digits (sawyerref01.Hex) are those of the plain text: plain lists, no program.
-/
import Derived.Test.YtlhgkmfcfdjngaaF1
import Derived.Test.YtlhgkmfcfdjngaaHex
namespace Go.Proofs.Ytlhgkmfcfdjngaa.F
open Go.RowKit Go.Proofs.YtlhgkmfcfdjngaaW.PrintWords Go.Proofs.YtlhgkmfcfdjngaaW.PrintLast Go.Proofs.YtlhgkmfcfdjngaaW.PrintMore
set_option linter.unusedVariables false
set_option linter.unusedSimpArgs false

theorem bt_getD (s : ByteArray) (i : Nat) (h : i < s.size) : bt s (i : Int) = (bytesOf s).getD i 0 := by
  have h' : i < (bytesOf s).length := by rw [bytesOf_length]; exact h
  rw [List.getD_eq_getElem?_getD, List.getElem?_eq_getElem h']
  unfold bt
  rw [dif_pos (show ((i : Int)).toNat < s.size by simpa using h)]
  simp [bytesOf]
  rfl

theorem hex_l0 (s : ByteArray) (hs : 2 * s.size < 140737488355328) (d : Nat) : ∀ (i : Nat), i + d = s.size → Ev (fun k => sawyerref01_Hex.l0 k s Sha.dg (Sha.hex ((bytesOf s).take i)) (i : Int)) (strOfNums (Sha.hex (bytesOf s))) := by
  have hbl := bytesOf_length s
  induction d with
  | zero =>
    intro i hi
    refine Ev.step (f := fun _ => some (strOfNums (Sha.hex (bytesOf s)))) (fun k => ?_) (Ev.now _)
    simp only [sawyerref01_Hex.l0]
    rw [if_neg (by omega), show i = (bytesOf s).length by omega, List.take_length]
  | succ d ih =>
    intro i hi
    refine Ev.step (fun k => ?_) (ih (i + 1) (by omega))
    simp only [sawyerref01_Hex.l0]
    have hx := bt_getD s i (by omega)
    have hr : 0 ≤ (bytesOf s).getD i 0 ∧ (bytesOf s).getD i 0 < 256 := by
      rw [List.getD_eq_getElem?_getD, List.getElem?_eq_getElem (by omega)]
      exact bytesOf_range s _ (List.getElem_mem _)
    have hd : (Sha.dg.size : Int) = 16 := rfl
    have hdl : (([bt Sha.dg ((bytesOf s).getD i 0 / 16), bt Sha.dg ((bytesOf s).getD i 0 % 16)] : List Int)).length = 2 := rfl
    have e1 : IntKind.u8.wrap (Int.tdiv ((bytesOf s).getD i 0) 16) = (bytesOf s).getD i 0 / 16 := by
      rw [Int.tdiv_eq_ediv_of_nonneg hr.1]
      show ((bytesOf s).getD i 0 / 16) % 256 = _
      omega
    have e2 : Int.tmod ((bytesOf s).getD i 0) 16 = (bytesOf s).getD i 0 % 16 := Int.tmod_eq_emod_of_nonneg hr.1
    rw [hx, e1, e2, hd]
    rw [if_pos (by omega), if_pos (by omega), if_pos (by omega), if_pos (by omega), if_pos (by omega), if_pos (by omega)]
    simp only [Option.bind_some]
    rw [if_pos (by rw [hdl, Sha.hex_length, List.length_take]; omega), take_snoc _ _ (by omega), Sha.hex_snoc]
    congr 1
    unfold wrap64
    omega

theorem ref_hex (s : ByteArray) (hs : 2 * s.size < 140737488355328) : Ev (fun k => sawyerref01_Hex.f k s) (strOfNums (Sha.hex (bytesOf s))) := hex_l0 s hs s.size 0 (by omega)
end Go.Proofs.Ytlhgkmfcfdjngaa.F
