/-
  A row of bytes that a conversion of a text has laid (the model marks it), and an append onto it.
-/
import Derived.Test.YtbnlkecjcgknhaaMac
namespace Go.Proofs.Ytbnlkecjcgknhaa
open Go.RowKit Go.Proofs.YtbnlkecjcgknhaaW.PrintWords Go.Proofs.YtbnlkecjcgknhaaW.PrintLast Go.Proofs.YtbnlkecjcgknhaaW.PrintMore
set_option linter.unusedVariables false
set_option linter.unusedSimpArgs false

/-- the row of a conversion: all of its cells lie ahead of the mark -/
def Marked8 (W : World) (base : Nat) (v : Value) (xs : List Int) : Prop :=
  ∃ g cap lo hi, ∃ cur : Array Value, v = .slice (some ⟨g, 0, none⟩) xs.length cap ∧ base ≤ g ∧ g < W.heap.size ∧ W.heap[g]? = some (.cells cur 5 (lo, hi)) ∧ cap ≤ lo ∧ xs.length ≤ cap ∧ cap ≤ maxLen ∧ cur.size = cap ∧ cur.toList.take xs.length = xs.map (Value.int .u8)
/-- a row of the call's own, or one of a conversion's -/
def Any8 (W : World) (base : Nat) (v : Value) (xs : List Int) : Prop := Own8 W base v xs ∨ Marked8 W base v xs

theorem marked_conv (W : World) (s : ByteArray) (hs : s.size ≤ maxLen) : Marked8 (Lib.bytesWorld W 5 s) W.heap.size (.slice (some ⟨W.heap.size, 0, none⟩) s.size (grownCap W s.size 0 5)) (bytesOf s) := by
  have hge : s.size ≤ grownCap W s.size 0 5 := grownCap_ge _ _ _ _
  have hsz : (Lib.bytesCells W 5 s).size = grownCap W s.size 0 5 := by
    simp only [Lib.bytesCells, Array.size_append, Array.size_map, Array.size_replicate]
    have : s.data.size = s.size := rfl
    omega
  refine ⟨W.heap.size, _, _, _, _, by rw [bytesOf_length], Nat.le_refl _, by rw [Lib.bytesWorld_size]; omega, Lib.bytesWorld_at_new W 5 s, by rw [hsz]; exact Nat.le_refl _, by rw [bytesOf_length]; exact hge, grownCap_le_maxLen _ _ _ _ hs, hsz, ?_⟩
  rw [bytesOf_length]
  simp only [Lib.bytesCells, Array.toList_append, Array.toList_map, bytesOf, List.map_map]
  rw [List.take_append_of_le_length (by simp), List.take_of_length_le (by simp)]
  rfl

theorem marked_cell {W : World} {g lo hi : Nat} {cur : Array Value} {xs : List Int} (hh : W.heap[g]? = some (.cells cur 5 (lo, hi))) (ht : cur.toList.take xs.length = xs.map (Value.int .u8)) (j : Nat) (hj : j < xs.length) : W.cell? ⟨g, j, none⟩ = some (.int .u8 (xs.getD j 0)) := by
  have h1 : (cur.toList.take xs.length)[j]? = (xs.map (Value.int .u8))[j]? := by rw [ht]
  rw [List.getElem?_take_of_lt hj, List.getElem?_map, List.getElem?_eq_getElem hj] at h1
  simp only [World.cell?, hh]
  simp at h1 ⊢
  rw [h1, List.getElem?_eq_getElem hj]
  rfl

theorem any_reads {W : World} {base : Nat} {v : Value} {xs : List Int} (h : Any8 W base v xs) : ∃ A c, v = .slice A xs.length c ∧ xs.length ≤ c ∧ Kd.C (Kd.int .u8) W A xs.length xs := by
  rcases h with h | ⟨g, cap, lo, hi, cur, rfl, hb, hg, hh, hlo, hle, hmx, hsz, ht⟩
  · obtain ⟨A, c, rfl⟩ := Kd.R_slice h
    obtain ⟨_, h2, h3⟩ := Kd.R_reads' h
    exact ⟨A, c, rfl, h2, h3⟩
  · refine ⟨_, _, rfl, hle, Kd.C_of_reads (d := (0 : Int)) (h1 := fun _ => rfl) ⟨rfl, by simp only [maxLen] at hmx; omega, fun _ => ⟨_, rfl, fun j hj => ?_⟩⟩⟩
    rw [add_plain]
    exact marked_cell hh ht j hj

theorem any_below {W w1 : World} {base : Nat} {v : Value} {xs : List Int} (h : Any8 W base v xs) (hb : Below W.heap.size W w1) : Any8 w1 base v xs := by
  rcases h with h | ⟨g, cap, lo, hi, cur, rfl, hbs, hg, hh, rest⟩
  · exact .inl (own8_below h hb)
  · exact .inr ⟨g, cap, lo, hi, cur, rfl, hbs, Nat.lt_of_lt_of_le hg hb.size, by rw [hb.block g hg]; exact hh, rest⟩

theorem heap_setCell_same8 {w : World} {b i : Nat} {cs : Array Value} {T : TypeId} {fr : Nat × Nat} (hb : w.heap[b]? = some (.cells cs T fr)) (v : Value) : (w.setCell ⟨b, i, none⟩ v).heap[b]? = some (.cells (cs.setIfInBounds i v) T fr) := by
  simp [World.setCell, Array.getElem?_modify, hb]
theorem below_setCell {base g : Nat} {w0 W : World} (h : Below base w0 W) (hg : base ≤ g) (i : Nat) (v : Value) : Below base w0 (W.setCell ⟨g, i, none⟩ v) :=
  ⟨h.os, h.tape, h.output, by simp only [World.setCell, Array.size_modify]; exact h.size, fun k hk => by
    rw [heap_setCell_other _ _ _ _ (show k ≠ g by omega)]
    exact h.block k hk⟩

section
variable {ops : Array Oper} {rest : List Oper} {o : Oper} {a : Act} {Q : Exit → Act → World → Prop}
theorem app_any {w0 W : World} (base : Nat) (hgd : o.guard = none) (s x : Operand)
    (ho : o.op = .call { callee := .builtin .append, args := #[s, x], argTypes := #[24, 24] })
    (v : Value) (xs : List Int) (p : Int) (hs : a.eval s = v) (hx : a.eval x = .slice (some ⟨W.heap.size, 0, none⟩) 1 1)
    (HO : Any8 W base v xs) (HB : Below base w0 W) (hbase : base ≤ W.heap.size) (hl : xs.length + 1 ≤ 140737488355328)
    (h : ∀ v1 w1, Any8 w1 base v1 (xs ++ [p]) → Below base w0 w1 → wpList Try.prog ops Q rest (a.put o.dst v1) w1) :
    wpList Try.prog ops Q (o :: rest) a (W.alloc (.cells #[.int .u8 p] 5)) := by
  rcases HO with HO | ⟨g, cap, lo, hi, cur, rfl, hbs, hg, hh, hlo, hle, hmx, hsz, ht⟩
  · exact app_one (w0 := w0) base hgd s x ho v xs p hs hx HO HB hbase hl (fun v1 w1 h1 h2 _ _ => h v1 w1 (.inl h1) h2)
  · obtain ⟨i5, hi5, hz5, hs5, hb5⟩ := info_parts infoB
    have hh' : (W.alloc (.cells #[.int .u8 p] 5)).heap[g]? = some (.cells cur 5 (lo, hi)) := by rw [heap_alloc_old _ _ hg]; exact hh
    have hnew : ∀ j u, ([Value.int .u8 p] : List Value)[j]? = some u → (W.alloc (.cells #[.int .u8 p] 5)).cell? ((⟨W.heap.size, 0, none⟩ : Addr).add j) = some u := by
      intro j u hu
      cases j with
      | zero =>
        simp at hu
        subst hu
        rw [add_plain, World.cell?_alloc_new]
        rfl
      | succ j => simp at hu
    refine wpList_append_arg (P := Try.prog) _ hgd s x 24 ho 5 i5 (.int .u8 0) 1 1 Try.underlying24 hi5 hz5 hs5 hb5 rfl (by decide) g 0 xs.length cap (xs.map (Value.int .u8)) hs (by simp) (fun j u hu => ?_) ⟨W.heap.size, 0, none⟩ 1 1 [.int .u8 p] hx (by simp) hnew (by simp [Value.oneCell']) (fun hr j hj => ?_) (by simp only [maxLen]; omega) (by omega) (fun hr => ?_) (fun hr v1 w1 h1 h2 => ?_)
    · have hj : j < xs.length := by
        rcases Nat.lt_or_ge j xs.length with hj | hj
        · exact hj
        · rw [List.getElem?_eq_none (by simpa using hj)] at hu
          cases hu
      rw [Nat.zero_add, marked_cell hh' ht j hj]
      rw [List.getElem?_map, List.getElem?_eq_getElem hj] at hu
      simp at hu
      rw [← hu, List.getD_eq_getElem?_getD, List.getElem?_eq_getElem hj]
      rfl
    · have hj0 : j = 0 := by simp at hj; omega
      subst hj0
      refine ⟨?_, ?_⟩
      · simp only [World.cell?, hh']
        simp
        omega
      · simp only [World.frozen?, hh']
        simp
        omega
    · have hlt : xs.length < cur.size := by omega
      have e1 : (W.alloc (.cells #[.int .u8 p] 5)).setCells g (0 + xs.length * 1) [.int .u8 p] = (W.alloc (.cells #[.int .u8 p] 5)).setCell ⟨g, xs.length, none⟩ (.int .u8 p) := by
        simp [World.setCells]
      rw [e1]
      refine h _ _ (.inr ⟨g, cap, lo, hi, cur.setIfInBounds xs.length (.int .u8 p), by simp, hbs, ?_, heap_setCell_same8 hh' _, hlo, by simp; omega, hmx, by simp [hsz], ?_⟩) (below_setCell (HB.alloc hbase _) hbs _ _)
      · simp only [World.setCell, Array.size_modify]
        simp
        omega
      · rw [Array.toList_setIfInBounds]
        simp only [List.length_append, List.length_cons, List.length_nil, List.map_append, List.map_cons, List.map_nil]
        rw [← ht, List.take_succ_eq_append_getElem (by simp; exact hlt)]
        simp
        exact List.take_set_of_le (Nat.le_refl _)
    · exact h v1 w1 (.inl (Kd.R_lower (Kd.R_of_own (by simpa [encs] using h1) (fun _ _ => trivial)) (show base ≤ W.heap.size + 1 by omega))) ((HB.alloc hbase _).grown h2 (by simp; omega) (fun k e => by cases e))
end
end Go.Proofs.Ytbnlkecjcgknhaa
