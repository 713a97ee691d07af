/-
  Steps of drawn regions over rows of triples, for BloomOrder's walk; the tables of its two regions.
-/
import Derived.Test.YtojabcadoajbjaaOrder
namespace Go.Proofs.Ytojabcadoajbjaa
open Go.RowKit Go.Proofs.YtojabcadoajbjaaW.PrintWords Go.Proofs.YtojabcadoajbjaaW.PrintLast Go.Proofs.YtojabcadoajbjaaW.PrintMore
set_option linter.unusedVariables false
set_option linter.unusedSimpArgs false

def order_T9 : Bool × List (List Nat × List Nat) := (true, [([],[]),([],[]),([0,1],[0,1]),([],[]),([3],[3]),([4],[4]),([5],[5]),([2,6,2],[2,6]),([7,7],[7]),([8,8,0,1,2,3,4,5,6,7,8],[8])])
def order_B9 : List Nat := [0,0,3,0,8,24,56,127,255,511]
theorem order_tab9 : rtab .any (opsOf Try.f5 9) = order_T9 := by kernel_rfl
theorem order_bits9 : waitsOk order_T9.2 order_B9 = true := by kernel_rfl
def order_T10 : Bool × List (List Nat × List Nat) := (true, [([], []), ([], []), ([0, 1], [0, 1]), ([], []), ([], []), ([4], [4]), ([5], [5]), ([3, 6], [3, 6]), ([7], [7]), ([8], [8]), ([2, 9, 2], [2, 9]), ([10, 10], [10]), ([11, 11, 0, 1, 2, 3, 4, 5, 6, 7, 8, 9, 10, 11], [11])])
def order_B10 : List Nat := [0, 0, 3, 0, 0, 16, 48, 120, 248, 504, 1023, 2047, 4095]
theorem order_tab10 : rtab .any (opsOf Try.f5 10) = order_T10 := by kernel_rfl
theorem order_bits10 : waitsOk order_T10.2 order_B10 = true := by kernel_rfl

theorem same_self (q : List Int) : F.sawyerref02_Same.f q q = some true := by
  unfold F.sawyerref02_Same.f
  rw [beq_self_eq_true]
theorem All2.reverse {w : World} : ∀ {ts : List T3} {ks : List (List Int)}, All2 w ts ks → All2 w ts.reverse ks.reverse
  | [], [], _ => trivial
  | t :: ts, k :: ks, h => by
    rw [List.reverse_cons, List.reverse_cons]
    exact All2.append (All2.reverse h.2) ⟨h.1, trivial⟩
theorem rows_snoc {keys : List (List Int)} {key : List Int} (h : ∀ r ∈ keys, r.length ≤ 140737488351232) (hk : key ∈ keys) : ∀ r ∈ keys ++ [key], r.length ≤ 140737488354000 := by
  intro r hr
  rcases List.mem_append.1 hr with h1 | h1
  · have := h r h1
    omega
  · simp at h1
    subst h1
    have := h _ hk
    omega
abbrev Own3k (w : World) (base : Nat) (ok : Nat → Prop) (v : Value) (ts : List T3) : Prop := Kd.R k3 25 w base ok v ts
theorem cell_step {V w' : World} {a : Addr} {v : Value} (h : V.cell? a = some v) (hb : Below V.heap.size V w') : w'.cell? a = some v := pw_cell_below hb h
theorem own3_new {W w1 : World} {base : Nat} {u v1 : Value} {xs : List T3} (h : Own3 W base u xs) (hg : W.grownBy w1 none) (hat : ∃ b, v1.ownBlock = some b ∧ W.heap.size ≤ b) : Own3k w1 base (fun k => True ∧ some k ≠ v1.ownBlock) u xs :=
  Kd.R_after (v := .slice none 0 0) (v1 := v1) (Kd.R_apart_nil h) hg (.inr hat)
theorem own3_all {W : World} {base : Nat} {ok : Nat → Prop} {u : Value} {xs : List T3} (h : Own3k W base ok u xs) : Own3 W base u xs := Kd.R_mono h (fun _ _ => trivial)
theorem fresh3 {W : World} {base : Nat} {ok : Nat → Prop} {u : Value} {xs : List T3} (h : Own3k W base ok u xs) : True ∧ some W.heap.size ≠ u.ownBlock := ⟨trivial, fun e => by have := Kd.R_lt h _ e.symm; omega⟩
theorem C_one3 {W : World} {base : Nat} {ok : Nat → Prop} {A : Option Addr} {n c : Nat} {xs : List T3} (h : Own3k W base ok (.slice A n c) xs) : Kd.C k3 W A n xs := by
  have h2 := Kd.R_reads' h
  rw [h2.1]
  exact h2.2.2

section
variable {ops : Array Oper} {o : Oper} {a : Act} {Q : Exit → Act → World → Prop} {Kc : Act → World → Prop}
theorem lit3_none_step {w0 W : World} (base : Nat) (hw : Region.wanted o (yielded ops a.tmps) = true) {N : Tmp} (hd : o.dst = some N) (ho : o.op = .buildSlice 22 0 #[])
    (HB : Below base w0 W) (hbase : base ≤ W.heap.size)
    (h : ∀ v1 w1, Own3 w1 base v1 [] → Below base w0 w1 → W.grownBy w1 none → (∃ b, v1.ownBlock = some b ∧ W.heap.size ≤ b) → Kc (a.put (some N) v1) w1) :
    if Region.wanted o (yielded ops a.tmps) = true then Oper.wp Try.prog o a W Kc Q else Kc (a.put (some N) undef) W := by
  rw [← hd]
  refine Kd.R_lit_step k3 (w0 := w0) base 25 hw hd (xs := ([] : List T3)) (inner := []) (ok := fun _ => True) (okp := fun _ => True) ?_ (Reps.none _ _) (fun _ hk => hk) trivial HB hbase (by simp) (by rw [hd]; exact h)
  obtain ⟨dst, op, ty, pos, after, guard⟩ := o
  subst ho
  go_simp
theorem lit3_one_step {w0 W : World} (base : Nat) (hw : Region.wanted o (yielded ops a.tmps) = true) {N : Tmp} (hd : o.dst = some N) (x : Operand) (ho : o.op = .buildSlice 22 1 #[(0, x)]) (t : T3) (hx : a.eval x = enc3 t)
    (ok : Nat → Prop) (hfresh : ok W.heap.size) (HB : Below base w0 W) (hbase : base ≤ W.heap.size)
    (h : ∀ v1 w1, Own3k w1 base ok v1 [t] → Below base w0 w1 → W.grownBy w1 none → (∃ b, v1.ownBlock = some b ∧ W.heap.size ≤ b) → Kc (a.put (some N) v1) w1) :
    if Region.wanted o (yielded ops a.tmps) = true then Oper.wp Try.prog o a W Kc Q else Kc (a.put (some N) undef) W := by
  rw [← hd]
  have hb3 : Try.prog.underlying 22 = some (.slice 25) := Try.underlying22
  refine Kd.R_lit_step k3 (w0 := w0) base 25 hw hd (xs := [t]) (inner := [enc3 t]) (ok := ok) (okp := fun _ => False) ?_ ?_ (fun _ hk => hk.elim) hfresh HB hbase (by simp) (by rw [hd]; exact h)
  · have hb : ∀ W : World, (Instr.buildSlice 22 1 #[(0, enc3 t)]).run Try.prog W = .ok (.slice (some ⟨W.heap.size, 0, none⟩) 1 1) (W.alloc (.cells #[enc3 t] 25)) := by
      intro W
      unfold enc3
      go_simp
    simp only [execOp, ho, List.map_toArray, List.map_cons, List.map_nil, hx, Sem.run_bind, hb, Result.andThen_ok, Sem.run_pure]
    rfl
  · refine ⟨rfl, fun j p hj => ?_⟩
    have : j = 0 := by
      cases j with
      | zero => rfl
      | succ j => simp at hj
    subst this
    simp at hj
    subst hj
    rfl
theorem app3_step {w0 W : World} (base : Nat) (hw : Region.wanted o (yielded ops a.tmps) = true) {N : Tmp} (hd : o.dst = some N) (s x : Operand)
    (ho : o.op = .call { callee := .builtin .append, args := #[s, x], argTypes := #[22, 22] })
    (v : Value) (xs ys : List T3) (A : Option Addr) (m c : Nat) (hs : a.eval s = v) (hx : a.eval x = .slice A m c)
    (HO : Own3 W base v xs) (HR : Kd.C k3 W A m ys) (HB : Below base w0 W) (hbase : base ≤ W.heap.size) (hl : (xs.length + m) * 24 ≤ 140737488355328)
    (h : ∀ v1 w1, Own3 w1 base v1 (xs ++ ys) → Below base w0 w1 → W.grownBy w1 v.ownBlock → (v1.ownBlock = v.ownBlock ∨ ∃ b, v1.ownBlock = some b ∧ W.heap.size ≤ b) → Kc (a.put (some N) v1) w1) :
    if Region.wanted o (yielded ops a.tmps) = true then Oper.wp Try.prog o a W Kc Q else Kc (a.put (some N) undef) W := by
  rw [← hd]
  exact Kd.R_append_rows_step k3 (w0 := w0) base hw s x 22 25 (.slice none 0 0) 24 ho Try.underlying22 infoS rfl (by decide) (by omega) v xs ys A m c (fun _ => True) (fun _ => False) hs hx HO HR (fun _ _ h => h) (fun _ h => h.elim) (fun _ _ => trivial) HB hbase hl (by rw [hd]; exact h)
end
end Go.Proofs.Ytojabcadoajbjaa
