-- JOINED BY A PROGRAM OF THIS PLACE (wip/tools/pack.py) out of: Open3
import Derived.Lib.SmallJoins
import Derived.Test.YtoihdghoopgdfaaX232
section
/-
  How a struct of a whole number and a slice of texts is opened, as an argument; what its weights say.
-/
namespace Go.Proofs.Ytoihdghoopgdfaa
open Go.RowKit Go.ChangeShapes Go.WideShapes Go.Proofs.YtoihdghoopgdfaaW.PrintWords Go.Joins Go.Deep
set_option linter.unusedVariables false
set_option linter.unusedSimpArgs false
theorem struct_sized {H : Type} {P : Program} {ts : List TypeId} {ds : List (DataW H)} {j : Nat} {t : TypeId} {f0 f1 : Field} {parts : List (DataW H)}
    (hsz : (DataW.weightsEach P ts ds).all (· ≤ reachBytes) = true) (ht : ts[j]? = some t) (hd : ds[j]? = some (.agg parts)) (hu : P.underlying t = some (.struct #[f0, f1])) :
    (DataW.weightsEach P [f0.type, f1.type] parts).all (· ≤ reachBytes) = true := by
  refine List.all_eq_true.2 fun n hn => ?_
  exact List.all_eq_true.1 hsz n (DataW.weights_mem_each ht hd n (by simpa [DataW.weights, hu] using hn))
theorem open_span {H : Type} {enc : TypeId × Value → H} {P : Program} {W : World} {r : Reach} {b0 base : Nat} {held : Bool} {t : TypeId} {f0 f1 : Field} {v : Value} {d : DataW H} {p : List MemPlace}
    (hs : P.underlying t = some (.struct #[f0, f1])) (hone : oneCellFields P #[f0, f1] = true) (hC : P.cellsOf t = 2) (h0 : P.underlying f0.type = some (.int .i64)) {e : TypeId} (h1 : P.underlying f1.type = some (.slice e)) (he : P.underlying e = some .string) (hc : P.cellsOf e = 1)
    (hv : Value.okWide P W r b0 t v) (h : DataW.Trod enc P W base (fun _ => true) held t v d p) :
    ∃ (a : Int) (A : Option Addr) (c : Nat) (l : List ByteArray) (d1 : DataW H), v = .agg #[.int .i64 a, .slice A l.length c] ∧ d = .agg [.lit (.int .i64 a), d1] ∧ Kd.C Kd.string W A l.length l ∧ l.length ≤ c ∧ DatS d1 l := by
  obtain ⟨v0, v1, y0, y1, n, rfl, rfl, rfl, hy0, hy1⟩ := Joins.open_agg2 hs hone hC hv h
  obtain ⟨a, e0, rfl, _⟩ := DataW.trod_int h0 hy0
  simp at e0
  subst e0
  obtain ⟨A, len, c, e1⟩ := Joins.slice_form h1 hy1
  simp at e1
  subst e1
  obtain ⟨l, rfl, hr, hl, hd⟩ := open_texts h1 he hc (d := y1.1) (ps := y1.2) ⟨n, by simpa [Value.cells] using hy1⟩
  exact ⟨a, A, c, l, y1.1, rfl, rfl, hr, hl, hd⟩
end Go.Proofs.Ytoihdghoopgdfaa
end
