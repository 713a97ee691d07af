-- JOINED BY A PROGRAM OF THIS PLACE (wip/tools/pack.py) out of: ChkNext
import Derived.OneCell
import Derived.Test.YtkbbdbnjplcjdaaC6
import Derived.Test.YtkbbdbnjplcjdaaC8
section
/-
  hash.CheckProof's inner functions, first part: what lies where, and the one that takes the next hash.
-/
namespace Go.Proofs.Ytkbbdbnjplcjdaa
open Go.RowKit Go.Proofs.YtkbbdbnjplcjdaaW.PrintWords Go.Proofs.YtkbbdbnjplcjdaaW.PrintLast Go.Proofs.YtkbbdbnjplcjdaaW.PrintMore
set_option linter.unusedVariables false
set_option linter.unusedSimpArgs false
theorem infoS : (Try.prog.info? 9).map (fun i => (i.zero, i.size, i.bytes)) = some (some (.string ⟨#[]⟩), 1, 16) := by kernel_rfl
/-- the boxes of a proof's check, and what they hold -/
structure CPBox where
  p : Nat
  o : Nat
  b : Nat
  n : Nat
  w : Nat
def ptr (b : Nat) : Value := .pointer (some ⟨b, 0, none⟩)
structure CPSt (w0 : World) (X : CPBox) (old : ByteArray) (W : World) (A : Option Addr) (c : Nat) (p : List ByteArray) (bad : Bool) : Prop where
  hb : Below w0.heap.size w0 W
  gp : w0.heap.size ≤ X.p
  gb : w0.heap.size ≤ X.b
  npb : X.p ≠ X.b
  npo : X.p ≠ X.o
  npn : X.p ≠ X.n
  npw : X.p ≠ X.w
  nbo : X.b ≠ X.o
  nbn : X.b ≠ X.n
  nbw : X.b ≠ X.w
  cp : W.heap[X.p]? = some (.cells #[.slice A p.length c] 22 (0, 0))
  co : W.heap[X.o]? = some (.cells #[.string old] 9 (0, 0))
  cb : W.heap[X.b]? = some (.cells #[.bool bad] 4 (0, 0))
  cn : W.heap[X.n]? = some (.cells #[.func (.func 46) #[] #[ptr X.p, ptr X.b]] 59 (0, 0))
  cw : W.heap[X.w]? = some (.cells #[.func (.func 47) #[] #[ptr X.o, ptr X.n, ptr X.w]] 60 (0, 0))
  rd : Kd.C Kd.string w0 A p.length p
  le : p.length ≤ c
theorem one_other {W : World} {g b : Nat} {v u : Value} {t : TypeId} (h : W.heap[g]? = some (.cells #[v] t (0, 0))) (hne : b ≠ g) : (W.setCell ⟨b, 0, none⟩ u).heap[g]? = some (.cells #[v] t (0, 0)) := by
  rw [Below.heap_setCell _ _ _ _ (fun e => hne e.symm)]
  exact h
theorem CPSt.setBad {w0 : World} {X : CPBox} {old : ByteArray} {W : World} {A : Option Addr} {c : Nat} {p : List ByteArray} {bad : Bool} (h : CPSt w0 X old W A c p bad) (b : Bool) : CPSt w0 X old (W.setCell ⟨X.b, 0, none⟩ (.bool b)) A c p b :=
  { h with hb := below_setCell h.hb h.gb _ _, cp := one_other h.cp h.npb.symm, co := one_other h.co h.nbo, cb := one_setCell h.cb, cn := one_other h.cn h.nbn, cw := one_other h.cw h.nbw }
theorem CPSt.setP {w0 : World} {X : CPBox} {old : ByteArray} {W : World} {A A' : Option Addr} {c c' : Nat} {p p' : List ByteArray} {bad : Bool} (h : CPSt w0 X old W A c p bad) (hrd : Kd.C Kd.string w0 A' p'.length p') (hle : p'.length ≤ c') : CPSt w0 X old (W.setCell ⟨X.p, 0, none⟩ (.slice A' p'.length c')) A' c' p' bad :=
  { h with hb := below_setCell h.hb h.gp _ _, cp := one_setCell h.cp, co := one_other h.co h.npo, cb := one_other h.cb h.npb, cn := one_other h.cn h.npn, cw := one_other h.cw h.npw, rd := hrd, le := hle }
/-- behind what turns nothing that lay -/
theorem CPSt.later {w0 : World} {X : CPBox} {old : ByteArray} {W W' : World} {A : Option Addr} {c : Nat} {p : List ByteArray} {bad : Bool} (h : CPSt w0 X old W A c p bad) (hb : Below W.heap.size W W') : CPSt w0 X old W' A c p bad :=
  { h with
    hb := below_then h.hb h.hb.size hb
    cp := (hb.block _ (lt_of_block h.cp)).trans h.cp
    co := (hb.block _ (lt_of_block h.co)).trans h.co
    cb := (hb.block _ (lt_of_block h.cb)).trans h.cb
    cn := (hb.block _ (lt_of_block h.cn)).trans h.cn
    cw := (hb.block _ (lt_of_block h.cw)).trans h.cw }
def NextPost (w0 : World) (X : CPBox) (old : ByteArray) (p : List ByteArray) (bad : Bool) (e : Ending) (W' : World) : Prop :=
  ∃ (A' : Option Addr) (c' : Nat), e = .returned (.string (Hs.next p).1) ∧ CPSt w0 X old W' A' c' (Hs.next p).2.1 (bad || (Hs.next p).2.2)
set_option maxHeartbeats 1000000 in
set_option maxRecDepth 100000 in
theorem next_calls (w0 : World) (X : CPBox) (old : ByteArray) (W : World) (A : Option Addr) (c : Nat) (p : List ByteArray) (bad : Bool) (h : CPSt w0 X old W A c p bad) :
    Calls Try.prog 46 #[ptr X.p, ptr X.b] W (NextPost w0 X old p bad) := by
  have H := Lib.hid h
  have hc1 := cell_of_one h.cp
  have hc2 := cell_of_one h.cb
  have hf2 := free_of_one h.cb
  have hf1 := free_of_one h.cp
  cases p with
  | nil =>
    clear h
    unfold ptr
    go_enter Try.func46, Try.ntmps46
    go_wp2
    go_ret
    exact ⟨A, c, rfl, by have := H.out.setBad true; simpa [Hs.next] using this⟩
  | cons s r =>
    have hne : ((((s :: r).length : Nat) : Int) == 0) = false := by simp; omega
    obtain ⟨ad, rfl, hcell⟩ := Kd.at_string (Kd.C_below h.rd h.hb) 0 (by decide) (by simp)
    obtain ⟨i9, hi9, _, hsz9, _⟩ := info_parts infoS
    have hcut := cut_from (P := Try.prog) 22 9 .i64 Try.underlying22 hi9 1 hsz9 (some ad) (s :: r).length c 1 (by omega) (by simp; omega)
    have hrd : Kd.C Kd.string w0 (if c = 1 then some ad else (some ad).map (·.add (1 * 1))) r.length r := Kd.C_drop (k := Kd.string) (m := 1) h.rd (by simp) h.le
    have hle : r.length ≤ c - 1 := by have := h.le; simp at this; omega
    obtain ⟨A', hA'⟩ : ∃ A', A' = if c = 1 then some ad else (some ad).map (·.add (1 * 1)) := ⟨_, rfl⟩
    have hcut2 : ∀ W : World, (Instr.slice 22 (.slice (some ad) (s :: r).length c) (some (.int .i64 1)) none none).run Try.prog W = .ok (.slice A' r.length (c - 1)) W := by
      intro W
      rw [hcut W, hA']
      rfl
    rw [← hA'] at hrd
    have HRD := Lib.hid hrd
    have HLE := Lib.hid hle
    have hpos : 0 < (s :: r).length := by simp
    have hlen := H.out.rd.2.1
    simp only [rdOf, Int.toNat_zero, List.getD_cons_zero, show ad.add 0 = ad from by simp [Addr.add]] at hcell
    clear h hcut hrd hle hA'
    generalize hq : (s :: r).length = q at *
    have HQ := Lib.hid hq
    clear hq
    unfold ptr
    go_enter Try.func46, Try.ntmps46
    go_wp2
    go_ret
    exact ⟨A', c - 1, rfl, by have := H.out.setP HRD.out HLE.out; simpa [Hs.next] using this⟩
end Go.Proofs.Ytkbbdbnjplcjdaa
end
