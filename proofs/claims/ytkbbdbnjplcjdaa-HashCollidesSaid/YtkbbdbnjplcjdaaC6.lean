-- JOINED BY A PROGRAM OF THIS PLACE (wip/tools/pack.py) out of: Base Bytes Rot Expand Take Clone Sum Mk Whole Conv
import Derived.Test.YtkbbdbnjplcjdaaProg
import Derived.Below
import Derived.Deep.Draws
import Derived.Deep.AppendLies
import Derived.Maps.AppendAt
import Derived.OwnWalk
import Derived.Laws.BytesArg
import Derived.Laws.MakeOwn
import Derived.Laws.OwnMore
import Derived.Laws.CopyOwn
import Derived.Deep.OwnRows
import Derived.Tactics
import Derived.Lib.ConvBytes
import Derived.Lib.Hide
import Derived.Laws.Slices
import Derived.WalkKit
import Derived.KernelRfl
import Derived.RowKit3
import Derived.Deep.LoopGhost
import Derived.Deep.QuietTactic
import Derived.BigQuiet
import Derived.WideLaws
import Derived.Deep.DeepCutAuto
import Derived.Deep.CutBlock
import Derived.Deep.DeepMust
import Derived.Deep.RegionHeld3
import Derived.Deep.WholeRow
import Derived.BigRegion
import Derived.StillTailTactics
import Derived.RegionTactic
import Derived.ChangeAlike
import Derived.Laws.Rows
import Derived.Laws.Tables
import Derived.Lib.AppendStr
import Derived.ArgAppend
import Derived.Laws.IdiomCopy
import Derived.OrdersHeld
import Derived.Laws.BitsLemmas
import Derived.Laws.Bits64
import Derived.WalkSpells
import Derived.WalkSmall
import Derived.Outline
import Derived.RowKit
import Derived.IntWalk
import Derived.Test.YtkbbdbnjplcjdaaC0
import Derived.Test.YtkbbdbnjplcjdaaC1
import Derived.Test.YtkbbdbnjplcjdaaC2
section
/-
  The imports of this seat's walks, in one place. No statement.
-/
end
section
/-
  Appends to rows of bytes that the call itself made: the print's laws at this seat's []byte.
-/
namespace Go.Proofs.Ytkbbdbnjplcjdaa
open Go.RowKit Go.Proofs.YtkbbdbnjplcjdaaW.PrintWords Go.Proofs.YtkbbdbnjplcjdaaW.PrintLast Go.Proofs.YtkbbdbnjplcjdaaW.PrintMore
set_option linter.unusedVariables false
set_option linter.unusedSimpArgs false
theorem infoB : (Try.prog.info? 5).map (fun i => (i.zero, i.size, i.bytes)) = some (some (.int .u8 0), 1, 1) := by kernel_rfl
/-- a row of bytes of the call's own -/
abbrev Own8 (w : World) (base : Nat) (v : Value) (xs : List Int) : Prop := Kd.R (Kd.int .u8) 5 w base (fun _ => True) v xs
/-- bytes that are read -/
abbrev Rd8 (w : World) (A : Option Addr) (xs : List Int) : Prop := Kd.C (Kd.int .u8) w A xs.length xs
section
variable {ops : Array Oper} {rest : List Oper} {o : Oper} {a : Act} {Q : Exit → Act → World → Prop}
theorem app_row {w0 W : World} (base : Nat) (hgd : o.guard = none) (s x : Operand)
    (ho : o.op = .call { callee := .builtin .append, args := #[s, x], argTypes := #[23, 23] })
    (v : Value) (xs ys : List Int) (A : Option Addr) (m c : Nat) (hs : a.eval s = v) (hx : a.eval x = .slice A m c)
    (HO : Own8 W base v xs) (HR : Kd.C (Kd.int .u8) W A m ys) (HB : Below base w0 W) (hbase : base ≤ W.heap.size) (hl : xs.length + m ≤ 140737488355328)
    (h : ∀ v1 w1, Own8 w1 base v1 (xs ++ ys) → Below base w0 w1 → W.grownBy w1 v.ownBlock → (v1.ownBlock = v.ownBlock ∨ ∃ b, v1.ownBlock = some b ∧ W.heap.size ≤ b) → wpList Try.prog ops Q rest (a.put o.dst v1) w1) :
    wpList Try.prog ops Q (o :: rest) a W :=
  Kd.R_append_rows (Kd.int .u8) (w0 := w0) base hgd s x 23 5 (.int .u8 0) 1 ho Try.underlying23 infoB rfl (by decide) (by omega) v xs ys A m c (fun _ => True) (fun _ => False) hs hx HO HR (fun _ _ h => h) (fun _ h => h.elim) (fun _ _ => trivial) HB hbase (by simpa using hl) h
theorem app_one {w0 W : World} (base : Nat) (hgd : o.guard = none) (s x : Operand)
    (ho : o.op = .call { callee := .builtin .append, args := #[s, x], argTypes := #[23, 23] })
    (v : Value) (xs : List Int) (p : Int) (hs : a.eval s = v) (hx : a.eval x = .slice (some ⟨W.heap.size, 0, none⟩) 1 1)
    (HO : Own8 W base v xs) (HB : Below base w0 W) (hbase : base ≤ W.heap.size) (hl : xs.length + 1 ≤ 140737488355328)
    (h : ∀ v1 w1, Own8 w1 base v1 (xs ++ [p]) → Below base w0 w1 → W.grownBy w1 v.ownBlock → (v1.ownBlock = v.ownBlock ∨ ∃ b, v1.ownBlock = some b ∧ W.heap.size ≤ b) → wpList Try.prog ops Q rest (a.put o.dst v1) w1) :
    wpList Try.prog ops Q (o :: rest) a (W.alloc (.cells #[.int .u8 p] 5)) :=
  Kd.R_append (Kd.int .u8) (w0 := w0) base hgd s x 23 5 (.int .u8 0) 1 ho Try.underlying23 infoB rfl (by decide) (by omega) v xs p [.int .u8 p] (fun _ => True) (fun _ => False) hs hx rfl (fun _ h => h.elim) (fun _ _ => trivial) HO HB hbase (by simpa using hl) h
theorem lit_none {w0 W : World} (base : Nat) (hgd : o.guard = none) {N : Tmp} (hd : o.dst = some N) (ho : o.op = .buildSlice 23 0 #[])
    (HB : Below base w0 W) (hbase : base ≤ W.heap.size)
    (h : ∀ v1 w1, Own8 w1 base v1 [] → Below base w0 w1 → W.grownBy w1 none → wpList Try.prog ops Q rest (a.put o.dst v1) w1) :
    wpList Try.prog ops Q (o :: rest) a W := by
  refine Kd.R_lit (Kd.int .u8) (w0 := w0) base 5 hgd hd (xs := ([] : List Int)) (inner := []) (ok := fun _ => True) (okp := fun _ => True) ?_ (Reps.none _ _) (fun _ hk => hk) trivial HB hbase (by simp) fun v1 w1 ho hb hg _ => h v1 w1 ho hb hg
  obtain ⟨dst, op, ty, pos, after, guard⟩ := o
  subst ho
  go_simp
end
/-- the cells of a literal that was laid last -/
theorem rd_new (W : World) (xs : List Int) (hx : xs.length ≤ 9223372036854775807) : Kd.C (Kd.int .u8) (W.alloc (.cells (xs.map (Value.int .u8)).toArray 5)) (some ⟨W.heap.size, 0, none⟩) xs.length xs := by
  refine Kd.C_of_reads (d := (0 : Int)) (h1 := fun _ => rfl) ⟨rfl, hx, fun _ => ⟨_, rfl, fun j hj => ?_⟩⟩
  rw [add_plain, World.cell?_alloc_new]
  simp [hj]
theorem bytesOf_range (s : ByteArray) : ∀ x ∈ bytesOf s, 0 ≤ x ∧ x < 256 := by
  intro x hx
  obtain ⟨b, _, rfl⟩ := List.mem_map.1 hx
  have := b.toNat_lt
  omega
end Go.Proofs.Ytkbbdbnjplcjdaa
end
section
/-
  The turning of words (math/bits.RotateLeft32, sha.turned): what a call answers.
-/
namespace Go.Proofs.Ytkbbdbnjplcjdaa
open Go.RowKit Go.Proofs.YtkbbdbnjplcjdaaW.PrintWords Go.Proofs.YtkbbdbnjplcjdaaW.PrintLast Go.Proofs.YtkbbdbnjplcjdaaW.PrintMore
set_option linter.unusedVariables false
set_option linter.unusedSimpArgs false
theorem rotl_calls (x k : Int) (n m : Nat) (hn : n + m = 32) (hk : Go.bits .and .u64 (IntKind.u64.wrap k) 31 = (m : Int)) (w : World) :
    Calls Try.prog 68 #[.int .u32 x, .int .i64 k] w fun e w' => e = .returned (.int .u32 (Sha.rot x n)) ∧ w = w' := by
  have h1 : (0 : Int) ≤ (m : Int) := by omega
  have h2 : (m : Int) ≤ 32 := by omega
  have h3 : IntKind.u64.wrap (32 - (m : Int)) = (n : Int) := by rw [show (32 - (m : Int)) = (n : Int) by omega, IntKind.wrap_u64]; omega
  go_enter Try.func68, Try.ntmps68
  go_wp2
  go_ret
  obtain rfl : m = 32 - n := by omega
  exact ⟨rfl, rfl⟩
theorem big1_calls (x : Int) (w : World) :
    Calls Try.prog 61 #[.int .u32 x, .int .i64 6, .int .i64 11, .int .i64 25] w fun e w' => e = .returned (.int .u32 (Sha.big1 x)) ∧ w = w' := by
  go_enter Try.func61, Try.ntmps61
  go_wp2_with fail
  refine (rotl_calls x (-6) 6 26 (by decide) (by decide) _).mono ?_
  rintro e w1 ⟨rfl, rfl⟩
  go_wp2_with fail
  refine (rotl_calls x (-11) 11 21 (by decide) (by decide) _).mono ?_
  rintro e w1 ⟨rfl, rfl⟩
  go_wp2_with fail
  refine (rotl_calls x (-25) 25 7 (by decide) (by decide) _).mono ?_
  rintro e w1 ⟨rfl, rfl⟩
  go_wp2_with fail
  go_ret
  exact ⟨rfl, rfl⟩
theorem big0_calls (x : Int) (w : World) :
    Calls Try.prog 61 #[.int .u32 x, .int .i64 2, .int .i64 13, .int .i64 22] w fun e w' => e = .returned (.int .u32 (Sha.big0 x)) ∧ w = w' := by
  go_enter Try.func61, Try.ntmps61
  go_wp2_with fail
  refine (rotl_calls x (-2) 2 30 (by decide) (by decide) _).mono ?_
  rintro e w1 ⟨rfl, rfl⟩
  go_wp2_with fail
  refine (rotl_calls x (-13) 13 19 (by decide) (by decide) _).mono ?_
  rintro e w1 ⟨rfl, rfl⟩
  go_wp2_with fail
  refine (rotl_calls x (-22) 22 10 (by decide) (by decide) _).mono ?_
  rintro e w1 ⟨rfl, rfl⟩
  go_wp2_with fail
  go_ret
  exact ⟨rfl, rfl⟩
end Go.Proofs.Ytkbbdbnjplcjdaa
end
section
/-
  The table K and the words of a block: what sha.table and sha.expand answer.
-/
namespace Go.Proofs.Ytkbbdbnjplcjdaa
open Go.RowKit Go.Proofs.YtkbbdbnjplcjdaaW.PrintWords Go.Proofs.YtkbbdbnjplcjdaaW.PrintLast Go.Proofs.YtkbbdbnjplcjdaaW.PrintMore
set_option linter.unusedVariables false
set_option linter.unusedSimpArgs false
/-- words as values -/
def u32s (l : List Int) : Array Value := (l.map (Value.int .u32)).toArray
theorem u32s_size (l : List Int) : (u32s l).size = l.length := by simp [u32s]
theorem u32s_one (l : List Int) : (u32s l).all (·.oneCell') = true := by
  simp [u32s]
  intro i h
  rfl
theorem wraps_u32 (n : Int) (h₀ : 0 ≤ n) (h₁ : n < 2 ^ 32) : IntKind.u32.wrap n = n := by rw [IntKind.wrap_u32]; omega
theorem u32_or (i : Nat) (x y : Int) (hx₀ : 0 ≤ x) (hx : x % 2 ^ i = 0) (hx₁ : x < 2 ^ 32) (hy₀ : 0 ≤ y) (hy : y < 2 ^ i) (hy₁ : y < 2 ^ 32) : Go.bits .or .u32 x y = x + y :=
  bits_join .u32 32 (by decide) wraps_u32 i x y hx₀ hx hx₁ hy₀ hy hy₁
/-- four bytes, laid together by the bits, are their number -/
theorem word_or (x0 x1 x2 x3 : Int) (h0 : 0 ≤ x0 ∧ x0 < 256) (h1 : 0 ≤ x1 ∧ x1 < 256) (h2 : 0 ≤ x2 ∧ x2 < 256) (h3 : 0 ≤ x3 ∧ x3 < 256) :
    Go.bits .or .u32 (Go.bits .or .u32 (Go.bits .or .u32 (x0 % 4294967296 * 16777216 % 4294967296) (x1 % 4294967296 * 65536 % 4294967296)) (x2 % 4294967296 * 256 % 4294967296)) (x3 % 4294967296) = x0 * 16777216 + x1 * 65536 + x2 * 256 + x3 := by
  rw [show x0 % 4294967296 * 16777216 % 4294967296 = x0 * 16777216 by omega, show x1 % 4294967296 * 65536 % 4294967296 = x1 * 65536 by omega, show x2 % 4294967296 * 256 % 4294967296 = x2 * 256 by omega, show x3 % 4294967296 = x3 by omega]
  rw [u32_or 24 (x0 * 16777216) (x1 * 65536) (by omega) (by omega) (by omega) (by omega) (by omega) (by omega)]
  rw [u32_or 16 _ (x2 * 256) (by omega) (by omega) (by omega) (by omega) (by omega) (by omega)]
  rw [u32_or 8 _ x3 (by omega) (by omega) (by omega) (by omega) (by omega) (by omega)]
theorem u32s_zero (m : Nat) : u32s (List.replicate m 0) = Array.replicate m (.int .u32 0) := by rw [u32s, List.map_replicate, List.toArray_replicate]
theorem u32s_set (p : List Int) (k m : Nat) (v : Int) (hp : p.length = k) (hm : 0 < m) :
    (u32s (p ++ List.replicate m 0)).setIfInBounds k (.int .u32 v) = u32s (p ++ [v] ++ List.replicate (m - 1) 0) := by
  obtain ⟨m, rfl⟩ : ∃ n, m = n + 1 := ⟨m - 1, by omega⟩
  subst hp
  simp [u32s, List.replicate_succ]
theorem u32s_at (p : List Int) (k : Nat) (h : k < p.length) : (u32s p)[k]? = some (.int .u32 (p.getD k 0)) := by
  simp [u32s, h]
theorem infoArr : (Try.prog.info? 81).map (·.size) = some 64 := by kernel_rfl
theorem infoSt : (Try.prog.info? 69).map (·.size) = some 8 := by kernel_rfl
theorem zeroArr (w : World) : (zeroValue 81).run Try.prog w = .ok (.agg (Array.replicate 64 (.int .u32 0))) w := by kernel_rfl
theorem zeroSt (w : World) : (zeroValue 69).run Try.prog w = .ok (.agg (Array.replicate 8 (.int .u32 0))) w := by kernel_rfl
theorem wpList_buildAs {P : Program} {ops : Array Oper} {rest : List Oper} {o : Oper} {a : Act} {w : World} {Q : Exit → Act → World → Prop} (hg : o.guard = none) (t : TypeId) (parts : Array (Nat × Operand)) (cells : Array Value) (ho : o.op = .build t parts)
    (hf : P.built t (parts.map fun (i, x) => (i, a.eval x)).toList = some cells)
    (h : wpList P ops Q rest (a.put o.dst (.agg cells)) w) : wpList P ops Q (o :: rest) a w :=
  wpList_build hg t parts ho (by rw [hf]; rfl) (by rw [hf]; exact h)
set_option maxRecDepth 100000 in
theorem table_calls (w : World) :
    Calls Try.prog 59 #[] w fun e w' => e = .returned (.agg (u32s Sha.K)) ∧ Below w.heap.size w w' := by
  have hv := zeroArr
  go_enter Try.func59, Try.ntmps59
  go_wp2_with (first | (refine wpList_buildAs rfl 81 _ (u32s Sha.K) rfl (by kernel_rfl) ?_) | (refine wpList_store_row rfl 81 (.tmp 0) (.tmp 1) rfl w.heap.size (u32s Sha.K) rfl rfl 81 _ (heap_alloc_last w _) infoArr (by rw [u32s_size]; rfl) (u32s_one _) ?_; rw [World.setRow_alloc_new]))
  refine bodyPost_ret (v := .agg (u32s Sha.K)) (results_cell_row rfl _ _ w.heap.size 81 _ (0, 0) _ rfl (heap_alloc_last w _) Try.underlying81 rfl infoArr) rfl ⟨rfl, (Below.refl _ _).alloc (Nat.le_refl _) _⟩
theorem addr_add_succ (ad : Addr) (n m : Nat) : ad.add (n + (m + 1)) = ⟨ad.block, ad.off + (n + (m + 1)), none⟩ := by
  simp [Addr.add]
/-- a list of bytes that is read, cell by cell -/
theorem bytes_at {w : World} {A : Option Addr} {l : List Int} (h : Kd.C (Kd.int .u8) w A l.length l) (hl : 0 < l.length) : ∃ ad : Addr, A = some ad ∧ ∀ i, i < l.length → w.cell? (ad.add i) = some (.int .u8 (l.getD i 0)) := by
  obtain ⟨ad, _, e, _⟩ := Kd.C_get h 0 0 (by omega) (by omega)
  refine ⟨ad, e, fun i hi => ?_⟩
  obtain ⟨ad', cs, e', _, hk, hc⟩ := Kd.C_get h 0 (i : Int) (by omega) (by omega)
  rw [e] at e'
  obtain rfl := Option.some.inj e'
  have := hc 0 (.int .u8 (l.getD (i : Int).toNat 0)) (by rw [show cs = _ from hk]; rfl)
  simpa [Kd.int, Kd.scalar] using this
set_option maxHeartbeats 2000000 in
set_option maxRecDepth 100000 in
theorem expand_calls (A : Option Addr) (c : Nat) (l : List Int) (w : World) (hr : Kd.C (Kd.int .u8) w A l.length l) (hc : l.length ≤ c) (hl : l.length = 64) (hby : ∀ x ∈ l, 0 ≤ x ∧ x < 256) :
    Calls Try.prog 60 #[.slice A l.length c] w fun e w' => e = .returned (.agg (u32s (Sha.words l))) ∧ Below w.heap.size w w' := by
  obtain ⟨ad, rfl, hcell⟩ := bytes_at hr (by omega)
  have hv := zeroArr
  have HC := Lib.hid hcell
  have HL := Lib.hid hl
  have HBY := Lib.hid hby
  have hlen : 63 < l.length := by omega
  have hlen2 : l.length ≤ 64 := by omega
  clear hr hcell hl hby
  go_enter Try.func60, Try.ntmps60
  go_wp2
  clear hv
  go_loopw [10] (fun i wr => ∃ k : Nat, k ≤ 16 ∧ i = .int .i64 k ∧ Below w.heap.size w wr ∧ wr.heap.size = w.heap.size + 2 ∧ wr.heap[w.heap.size]? = some (.cells (Array.replicate 64 (.int .u32 0)) 81 (0, 0)) ∧ wr.heap[w.heap.size + 1]? = some (.cells (u32s (Sha.first k l ++ List.replicate (64 - k) 0)) 81 (0, 0))) (fun i _ => 16 - (intOf i).toNat)
  case atStart => exact ⟨0, by omega, by go_num, ((Below.refl _ w).alloc (Nat.le_refl _) _).alloc (by simp) _, by simp, heap_alloc2_old w _ _, (heap_alloc2_new w _ _).trans (by rw [show Sha.first 0 l ++ List.replicate (64 - 0) 0 = List.replicate 64 (0 : Int) from rfl, u32s_zero])⟩
  case round =>
    obtain ⟨k, hk, rfl, hB, hsz, h0, h1⟩ := hrel
    by_cases hlt : k < 16
    · have hlw : ∀ j, j < 64 → wr.cell? (ad.add j) = some (.int .u8 (l.getD j 0)) := fun j hj => by
        have hh := HC.out j (by omega)
        exact (hB.cell (World.block_lt_of_cell? w _ hh)).trans hh
      have g0 := hlw (4 * k) (by omega)
      have g1 : wr.cell? ⟨ad.block, ad.off + (4 * k + 1), none⟩ = _ := (congrArg wr.cell? (addr_add_succ ad (4 * k) 0)).symm.trans (hlw (4 * k + 1) (by omega))
      have g2 : wr.cell? ⟨ad.block, ad.off + (4 * k + 2), none⟩ = _ := (congrArg wr.cell? (addr_add_succ ad (4 * k) 1)).symm.trans (hlw (4 * k + 2) (by omega))
      have g3 : wr.cell? ⟨ad.block, ad.off + (4 * k + 3), none⟩ = _ := (congrArg wr.cell? (addr_add_succ ad (4 * k) 2)).symm.trans (hlw (4 * k + 3) (by omega))
      obtain ⟨x0, e0⟩ : ∃ x, x = l.getD (4 * k) 0 := ⟨_, rfl⟩
      obtain ⟨x1, e1⟩ : ∃ x, x = l.getD (4 * k + 1) 0 := ⟨_, rfl⟩
      obtain ⟨x2, e2⟩ : ∃ x, x = l.getD (4 * k + 2) 0 := ⟨_, rfl⟩
      obtain ⟨x3, e3⟩ : ∃ x, x = l.getD (4 * k + 3) 0 := ⟨_, rfl⟩
      rw [← e0] at g0
      rw [← e1] at g1
      rw [← e2] at g2
      rw [← e3] at g3
      have gw : wr.cell? ⟨w.heap.size + 1, k, none⟩ = some (.int .u32 0) := by
        rw [cell_of_row wr _ k _ _ _ h1, u32s_at _ _ (by simp [Sha.first_length]; omega)]
        rw [List.getD_eq_getElem?_getD, List.getElem?_append_right (by rw [Sha.first_length]; exact Nat.le_refl _)]
        simp [Sha.first_length, show 0 < 64 - k by omega]
      have gf : wr.frozen? ⟨w.heap.size + 1, k, none⟩ = false := frozen_of_row wr _ k _ _ h1
      have E0 := Lib.hid e0
      have E1 := Lib.hid e1
      have E2 := Lib.hid e2
      have E3 := Lib.hid e3
      have hB' := Lib.hid hB
      have hsz' := Lib.hid hsz
      have h0' := Lib.hid h0
      have h1' := Lib.hid h1
      clear hB hsz h0 h1 e0 e1 e2 e3 hlw
      go_wp2
      have n0 : IntKind.i64.wrap (4 * (k : Int)) = 4 * (k : Int) := IntWalk.i64_in _ (by omega)
      have n1 : IntKind.i64.wrap (4 * (k : Int) + 1) = 4 * (k : Int) + 1 := IntWalk.i64_in _ (by omega)
      have n2 : IntKind.i64.wrap (4 * (k : Int) + 2) = 4 * (k : Int) + 2 := IntWalk.i64_in _ (by omega)
      have n3 : IntKind.i64.wrap (4 * (k : Int) + 3) = 4 * (k : Int) + 3 := IntWalk.i64_in _ (by omega)
      have p0 : (0 : Int) ≤ 4 * (k : Int) := by omega
      have p1 : (0 : Int) ≤ 4 * (k : Int) + 1 := by omega
      have p2 : (0 : Int) ≤ 4 * (k : Int) + 2 := by omega
      have p3 : (0 : Int) ≤ 4 * (k : Int) + 3 := by omega
      have q0 : 4 * (k : Int) < (l.length : Int) := by omega
      have q1 : 4 * (k : Int) + 1 < (l.length : Int) := by omega
      have q2 : 4 * (k : Int) + 2 < (l.length : Int) := by omega
      have q3 : 4 * (k : Int) + 3 < (l.length : Int) := by omega
      have m0 : (4 * (k : Int)).toNat = 4 * k := by omega
      have m1 : (4 * (k : Int) + 1).toNat = 4 * k + 1 := by omega
      have m2 : (4 * (k : Int) + 2).toNat = 4 * k + 2 := by omega
      have m3 : (4 * (k : Int) + 3).toNat = 4 * k + 3 := by omega
      have r0 : (0 : Int) ≤ (k : Int) := by omega
      have r1 : (k : Int) < 64 := by omega
      have r2 : k < 64 := by omega
      go_still_tail 35, (by kernel_rfl)
      clear n0 n1 n2 n3 p0 p1 p2 p3 q0 q1 q2 q3 m0 m1 m2 m3
      change wpList _ _ _ _ _ wr.drew
      go_wp2
      go_roundw
      case rel =>
        have hm : ∀ i, i < 64 → 0 ≤ l.getD i 0 ∧ l.getD i 0 < 256 := fun i hi => by
          have := HL.out
          rw [List.getD_eq_getElem?_getD, List.getElem?_eq_getElem (by omega)]
          exact HBY.out _ (List.getElem_mem _)
        have b0 := hm (4 * k) (by omega)
        have b1 := hm (4 * k + 1) (by omega)
        have b2 := hm (4 * k + 2) (by omega)
        have b3 := hm (4 * k + 3) (by omega)
        rw [← E0.out] at b0
        rw [← E1.out] at b1
        rw [← E2.out] at b2
        rw [← E3.out] at b3
        rw [word_or x0 x1 x2 x3 b0 b1 b2 b3]
        have hw : x0 * 16777216 + x1 * 65536 + x2 * 256 + x3 = Sha.word l k := by rw [E0.out, E1.out, E2.out, E3.out]; rfl
        rw [hw]
        refine ⟨k + 1, by omega, by go_num, ?_, ?_, ?_, ?_⟩
        · exact (hB'.out.setCell (p := ⟨w.heap.size + 1, k, none⟩) (by simp) _).drew
        · simpa using hsz'.out
        · rw [heap_drew, heap_setCell_other _ _ _ _ (by simp)]; exact h0'.out
        · rw [heap_drew, heap_setCell_same _ _ _ _ _ _ h1'.out, u32s_set _ k (64 - k) _ (Sha.first_length _ _) (by omega)]
          rfl
      case measure => simp [intOf]; omega
    · obtain rfl : k = 16 := by omega
      have hB' := Lib.hid hB
      have hsz' := Lib.hid hsz
      have h0' := Lib.hid h0
      have h1' := Lib.hid h1
      clear hB hsz h0 h1 hlt hk
      rw [show ((16 : Nat) : Int) = 16 from rfl]
      go_wp2
      go_loopw [5] (fun i wx => ∃ (k : Nat) (p : List Int), 16 ≤ k ∧ k ≤ 64 ∧ i = .int .i64 k ∧ Below w.heap.size w wx ∧ wx.heap.size = w.heap.size + 2 ∧ p.length = k ∧ Sha.ext (64 - k) p = Sha.words l ∧ wx.heap[w.heap.size]? = some (.cells (Array.replicate 64 (.int .u32 0)) 81 (0, 0)) ∧ wx.heap[w.heap.size + 1]? = some (.cells (u32s (p ++ List.replicate (64 - k) 0)) 81 (0, 0))) (fun i _ => 64 - (intOf i).toNat)
      case atStart => exact ⟨16, Sha.first 16 l, by omega, by omega, by go_num, hB'.out, hsz'.out, Sha.first_length _ _, rfl, h0'.out, h1'.out⟩
      case round =>
        obtain ⟨k, p, hk1, hk2, rfl, hB, hsz, hp, hw, h0, h1⟩ := hrel
        obtain ⟨wx, rfl⟩ : ∃ wx, wx = wr := ⟨_, rfl⟩
        by_cases hlt : k < 64
        · have hat : ∀ j, j < k → wx.cell? ⟨w.heap.size + 1, j, none⟩ = some (.int .u32 (p.getD j 0)) := fun j hj => by
            rw [cell_of_row wx _ j _ _ _ h1, u32s_at _ _ (by simp; omega)]
            rw [List.getD_eq_getElem?_getD, List.getElem?_append_left (by omega), ← List.getD_eq_getElem?_getD]
          have g0 := hat (k - 15) (by omega)
          have g1 := hat (k - 2) (by omega)
          have g2 := hat (k - 16) (by omega)
          have g3 := hat (k - 7) (by omega)
          obtain ⟨x, ex⟩ : ∃ x, x = p.getD (k - 15) 0 := ⟨_, rfl⟩
          obtain ⟨y, ey⟩ : ∃ x, x = p.getD (k - 2) 0 := ⟨_, rfl⟩
          obtain ⟨a, ea⟩ : ∃ x, x = p.getD (k - 16) 0 := ⟨_, rfl⟩
          obtain ⟨b, eb⟩ : ∃ x, x = p.getD (k - 7) 0 := ⟨_, rfl⟩
          rw [← ex] at g0
          rw [← ey] at g1
          rw [← ea] at g2
          rw [← eb] at g3
          have gw : wx.cell? ⟨w.heap.size + 1, k, none⟩ = some (.int .u32 0) := by
            rw [cell_of_row wx _ k _ _ _ h1, u32s_at _ _ (by simp; omega)]
            rw [List.getD_eq_getElem?_getD, List.getElem?_append_right (by omega)]
            simp [hp, show 0 < 64 - k by omega]
          have gf : wx.frozen? ⟨w.heap.size + 1, k, none⟩ = false := frozen_of_row wx _ k _ _ h1
          have EX := Lib.hid ex
          have EY := Lib.hid ey
          have EA := Lib.hid ea
          have EB := Lib.hid eb
          have hB'' := Lib.hid hB
          have hsz'' := Lib.hid hsz
          have h0'' := Lib.hid h0
          have h1'' := Lib.hid h1
          have hp'' := Lib.hid hp
          have hw'' := Lib.hid hw
          clear hB hsz h0 h1 ex ey ea eb hp hw hat hB' hsz' h0' h1'
          go_wp2
          have n0 : IntKind.i64.wrap ((k : Int) - 15) = (k : Int) - 15 := IntWalk.i64_in _ (by omega)
          have n1 : IntKind.i64.wrap ((k : Int) - 2) = (k : Int) - 2 := IntWalk.i64_in _ (by omega)
          have p0 : (0 : Int) ≤ (k : Int) - 15 := by omega
          have p1 : (0 : Int) ≤ (k : Int) - 2 := by omega
          have q0 : (k : Int) - 15 < 64 := by omega
          have q1 : (k : Int) - 2 < 64 := by omega
          have m0 : ((k : Int) - 15).toNat = k - 15 := by omega
          have m1 : ((k : Int) - 2).toNat = k - 2 := by omega
          go_quiet (fail)
          clear n0 n1 p0 p1 q0 q1 m0 m1
          go_wp2_with fail
          refine (rotl_calls x (-7) 7 25 (by decide) (by decide) _).mono ?_
          rintro e w1 ⟨rfl, rfl⟩
          go_wp2_with fail
          refine (rotl_calls x (-18) 18 14 (by decide) (by decide) _).mono ?_
          rintro e w1 ⟨rfl, rfl⟩
          go_wp2_with fail
          refine (rotl_calls y (-17) 17 15 (by decide) (by decide) _).mono ?_
          rintro e w1 ⟨rfl, rfl⟩
          go_wp2_with fail
          refine (rotl_calls y (-19) 19 13 (by decide) (by decide) _).mono ?_
          rintro e w1 ⟨rfl, rfl⟩
          go_wp2_with fail
          have g2 : (wx.drewN nq).cell? ⟨w.heap.size + 1, k - 16, none⟩ = some (.int .u32 a) := g2
          have g3 : (wx.drewN nq).cell? ⟨w.heap.size + 1, k - 7, none⟩ = some (.int .u32 b) := g3
          have gw : (wx.drewN nq).cell? ⟨w.heap.size + 1, k, none⟩ = some (.int .u32 0) := gw
          have gf : (wx.drewN nq).frozen? ⟨w.heap.size + 1, k, none⟩ = false := gf
          have hB3 := Lib.hid (pw_below_drewN hB''.out nq)
          have hsz3 : Hid ((wx.drewN nq).heap.size = w.heap.size + 2) := Lib.hid hsz''.out
          have h03 : Hid ((wx.drewN nq).heap[w.heap.size]? = some (.cells (Array.replicate 64 (.int .u32 0)) 81 (0, 0))) := Lib.hid h0''.out
          have h13 : Hid ((wx.drewN nq).heap[w.heap.size + 1]? = some (.cells (u32s (p ++ List.replicate (64 - k) 0)) 81 (0, 0))) := Lib.hid h1''.out
          clear hB'' hsz'' h0'' h1''
          generalize wx.drewN nq = wy at *
          have n2 : IntKind.i64.wrap ((k : Int) - 16) = (k : Int) - 16 := IntWalk.i64_in _ (by omega)
          have n3 : IntKind.i64.wrap ((k : Int) - 7) = (k : Int) - 7 := IntWalk.i64_in _ (by omega)
          have p2 : (0 : Int) ≤ (k : Int) - 16 := by omega
          have p3 : (0 : Int) ≤ (k : Int) - 7 := by omega
          have q2 : (k : Int) - 16 < 64 := by omega
          have q3 : (k : Int) - 7 < 64 := by omega
          have m2 : ((k : Int) - 16).toNat = k - 16 := by omega
          have m3 : ((k : Int) - 7).toNat = k - 7 := by omega
          have r0 : (0 : Int) ≤ (k : Int) := by omega
          have r1 : (k : Int) < 64 := by omega
          have s2 : (16 : Int) ≤ (k : Int) := by omega
          have s3 : (7 : Int) ≤ (k : Int) := by omega
          go_still_tail 15, (by kernel_rfl)
          clear n2 n3 p2 p3 q2 q3 m2 m3 r0 r1 s2 s3
          change wpList _ _ _ _ _ (World.drew _)
          go_wp2
          go_roundw
          case rel =>
            have hpl := hp''.out
            have hwl := hw''.out
            have hval : (a + Go.bits .xor .u32 (Go.bits .xor .u32 (Sha.rot x 7) (Sha.rot x 18)) (x / 8) + b + Go.bits .xor .u32 (Go.bits .xor .u32 (Sha.rot y 17) (Sha.rot y 19)) (y / 1024)) % 4294967296 = Sha.next p := by
              unfold Sha.next
              rw [hpl, ← EX.out, ← EY.out, ← EA.out, ← EB.out]
              show (a + Sha.small0 x + b + Sha.small1 y) % 4294967296 = (a + b + Sha.small0 x + Sha.small1 y) % 4294967296
              omega
            rw [hval]
            refine ⟨k + 1, p ++ [Sha.next p], by omega, by omega, by go_num, ?_, ?_, ?_, ?_, ?_, ?_⟩
            · exact (hB3.out.setCell (p := ⟨w.heap.size + 1, k, none⟩) (by simp) _).drew
            · simpa using hsz3.out
            · simp [hpl]
            · rw [← hwl, show 64 - k = (64 - (k + 1)) + 1 by omega]; rfl
            · rw [heap_drew, heap_setCell_other _ _ _ _ (by simp)]; exact h03.out
            · rw [heap_drew, heap_setCell_same _ _ _ _ _ _ h13.out, u32s_set _ k (64 - k) _ hpl (by omega)]
              rfl
          case measure => simp [intOf]; omega
        · obtain rfl : k = 64 := by omega
          rw [show 64 - 64 = 0 by rfl] at hw h1
          simp only [List.replicate_zero, List.append_nil] at h1
          have hpw : p = Sha.words l := hw
          rw [hpw] at h1
          clear hw hp hlt hk1 hk2
          have h0' := Lib.hid h0
          have h1' := Lib.hid h1
          have hB' := Lib.hid hB
          clear h0 h1 hB
          have hz := Lib.hid hsz
          clear hsz
          go_wp2_with (first | (refine wpList_load_row rfl 81 (.tmp 3) rfl (w.heap.size + 1) rfl 81 _ (0, 0) _ h1'.out Try.underlying81 rfl (by rw [u32s_size, Sha.words_length]; exact infoArr) ?_) | (refine wpList_store_row rfl 81 (.tmp 2) (.tmp 92) rfl w.heap.size (u32s (Sha.words l)) rfl rfl 81 _ h0'.out (by rw [u32s_size, Sha.words_length]; exact infoArr) (by rw [u32s_size, Sha.words_length]; simp) (u32s_one _) ?_))
          refine bodyPost_ret (v := .agg (u32s (Sha.words l))) (results_cell_row rfl _ _ w.heap.size 81 _ (0, 0) _ rfl (setRow_heap _ _ _ _ _ _ h0'.out) Try.underlying81 rfl (by rw [u32s_size, Sha.words_length]; exact infoArr)) rfl ⟨rfl, below_setRow hB'.out (Nat.le_refl _) _⟩
end Go.Proofs.Ytkbbdbnjplcjdaa
end
section
/-
  One block taken: what (*sha.state).take does to the state.
-/
namespace Go.Proofs.Ytkbbdbnjplcjdaa
open Go.RowKit Go.Proofs.YtkbbdbnjplcjdaaW.PrintWords Go.Proofs.YtkbbdbnjplcjdaaW.PrintLast Go.Proofs.YtkbbdbnjplcjdaaW.PrintMore
set_option linter.unusedVariables false
set_option linter.unusedSimpArgs false
theorem u32s_eq8 (s : List Int) (h : s.length = 8) : ∃ a b c d e f g i, s = [a, b, c, d, e, f, g, i] := by
  match s, h with
  | [a, b, c, d, e, f, g, i], _ => exact ⟨a, b, c, d, e, f, g, i, rfl⟩
theorem take_world {w w2 X : World} {g : Nat} {Z K W : Array Value} (hX : (((w2.alloc (.cells Z 81)).alloc (.cells Z 81)).setRow w2.heap.size K).setRow (w2.heap.size + 1) W = X) (hg : g < w2.heap.size) (hb : Below w.heap.size w w2) :
    X.heap[w2.heap.size]? = some (.cells K 81 (0, 0)) ∧ X.heap[w2.heap.size + 1]? = some (.cells W 81 (0, 0)) ∧ X.heap[g]? = w2.heap[g]? ∧ Below w.heap.size w X ∧ X.heap.size = w2.heap.size + 2 := by
  subst hX
  refine ⟨?_, ?_, ?_, ?_, by simp⟩
  · rw [setRow_other _ _ _ _ (by omega)]
    exact setRow_heap _ _ _ _ _ _ (heap_alloc2_old w2 _ _)
  · exact setRow_heap _ _ _ _ _ _ ((setRow_other _ _ _ _ (by omega)).trans (heap_alloc2_new w2 _ _))
  · rw [setRow_other _ _ _ _ (by omega), setRow_other _ _ _ _ (by omega), heap_alloc_old _ _ (by simp; omega), heap_alloc_old _ _ hg]
  · have := hb.size
    exact below_setRow (below_setRow ((hb.alloc this _).alloc (by simp; omega) _) this _) (by omega) _
theorem infoU32 : (Try.prog.info? 67).map (·.size) = some 1 := by kernel_rfl
/-- what lies in memory while the rounds go on: K, the words, the eight letters, the state -/
structure TakeAt (w : World) (g n m : Nat) (S Wd s : List Int) (wr : World) : Prop where
  below : Below w.heap.size w wr
  size : wr.heap.size = m + 1
  hk : wr.heap[n]? = some (.cells (u32s Sha.K) 81 (0, 0))
  hw : wr.heap[n + 1]? = some (.cells (u32s Wd) 81 (0, 0))
  hl : wr.heap[m]? = some (.cells (u32s s) 69 (0, 0))
  hs : wr.heap[g]? = some (.cells (u32s S) 69 (0, 0))
namespace TakeAt
variable {w wr : World} {g n m : Nat} {S Wd s : List Int}
theorem drewN (h : TakeAt w g n m S Wd s wr) (k : Nat) : TakeAt w g n m S Wd s (wr.drewN k) := ⟨pw_below_drewN h.below k, h.size, h.hk, h.hw, h.hl, h.hs⟩
theorem drew (h : TakeAt w g n m S Wd s wr) : TakeAt w g n m S Wd s wr.drew := ⟨below_drew h.below, h.size, h.hk, h.hw, h.hl, h.hs⟩
theorem at_k (h : TakeAt w g n m S Wd s wr) (j : Nat) (hj : j < 64) : wr.cell? ⟨n, j, none⟩ = some (.int .u32 (Sha.K.getD j 0)) := by
  rw [cell_of_row wr _ j _ _ _ h.hk, u32s_at _ _ hj]
theorem at_w (h : TakeAt w g n m S Wd s wr) (j : Nat) (hj : j < Wd.length) : wr.cell? ⟨n + 1, j, none⟩ = some (.int .u32 (Wd.getD j 0)) := by
  rw [cell_of_row wr _ j _ _ _ h.hw, u32s_at _ _ hj]
theorem at_l (h : TakeAt w g n m S Wd s wr) (j : Nat) (hj : j < s.length) : wr.cell? ⟨m, j, none⟩ = some (.int .u32 (s.getD j 0)) := by
  rw [cell_of_row wr _ j _ _ _ h.hl, u32s_at _ _ hj]
theorem free (h : TakeAt w g n m S Wd s wr) (j : Nat) : wr.frozen? ⟨m, j, none⟩ = false := frozen_of_row wr _ j _ _ h.hl
theorem set (h : TakeAt w g n m S Wd s wr) (j : Nat) (v : Int) (hg : g < m) (hn : n + 1 < m) (hm : w.heap.size ≤ m) : TakeAt w g n m S Wd (s.set j v) (wr.setCell ⟨m, j, none⟩ (.int .u32 v)) := by
  refine ⟨h.below.setCell (p := ⟨m, j, none⟩) hm _, by simpa using h.size, ?_, ?_, ?_, ?_⟩
  · rw [heap_setCell_other _ _ _ _ (by simp; omega)]; exact h.hk
  · rw [heap_setCell_other _ _ _ _ (by simp; omega)]; exact h.hw
  · rw [heap_setCell_same _ _ _ _ _ _ h.hl]
    congr 2
    simp [u32s]
  · rw [heap_setCell_other _ _ _ _ (by simp; omega)]; exact h.hs
theorem row (h : TakeAt w g n m S Wd s wr) (s' : List Int) (hg : g < m) (hn : n + 1 < m) (hm : w.heap.size ≤ m) : TakeAt w g n m S Wd s' (wr.setRow m (u32s s')) := by
  refine ⟨below_setRow h.below hm _, by simpa using h.size, ?_, ?_, setRow_heap _ _ _ _ _ _ h.hl, ?_⟩
  · rw [setRow_other _ _ _ _ (by omega)]; exact h.hk
  · rw [setRow_other _ _ _ _ (by omega)]; exact h.hw
  · rw [setRow_other _ _ _ _ (by omega)]; exact h.hs
end TakeAt
theorem big1_same (x : Int) (w : World) :
    Calls Try.prog 61 #[.int .u32 x, .int .i64 6, .int .i64 11, .int .i64 25] w fun e w' => e = .returned (.int .u32 (Sha.big1 x)) ∧ w' = w := (big1_calls x w).mono fun _ _ h => ⟨h.1, h.2.symm⟩
theorem big0_same (x : Int) (w : World) :
    Calls Try.prog 61 #[.int .u32 x, .int .i64 2, .int .i64 13, .int .i64 22] w fun e w' => e = .returned (.int .u32 (Sha.big0 x)) ∧ w' = w := (big0_calls x w).mono fun _ _ h => ⟨h.1, h.2.symm⟩
theorem grown_set {w w' : World} {b : Nat} (h : w.grownBy w' (some b)) (j : Nat) (v : Value) : w.grownBy (w'.setCell ⟨b, j, none⟩ v) (some b) :=
  ⟨h.os, h.tape, h.output, by simpa using h.size, fun i hi hne => (heap_setCell_other _ _ _ _ (fun e => hne (by rw [e]))).trans (h.block i hi hne)⟩
theorem grown_drew {w w' : World} {row : Option Nat} (h : w.grownBy w' row) : w.grownBy w'.drew row := ⟨h.os, h.tape, h.output, h.size, h.block⟩
theorem u32s_setIn (p : List Int) (k : Nat) (v : Int) : (u32s p).setIfInBounds k (.int .u32 v) = u32s (p.set k v) := by simp [u32s]
theorem take_set (T S : List Int) (k : Nat) (hT : k < T.length) (hS : k < S.length) : (T.take k ++ S.drop k).set k (T.getD k 0) = T.take (k + 1) ++ S.drop (k + 1) := by
  rw [List.set_append_right _ _ (by simp; omega), List.drop_eq_getElem_cons hS]
  simp only [List.length_take, Nat.min_eq_left (Nat.le_of_lt hT), Nat.sub_self, List.set_cons_zero]
  rw [List.take_succ_eq_append_getElem hT, List.getD_eq_getElem?_getD, List.getElem?_eq_getElem hT, List.append_assoc]
  rfl
theorem grown_below {w w1 : World} (h : Below w.heap.size w w1) (row : Option Nat) : w.grownBy w1 row := grown_of_below h row
set_option maxHeartbeats 4000000 in
set_option maxRecDepth 100000 in
theorem take_calls (g : Nat) (S : List Int) (hS : S.length = 8) (A : Option Addr) (c : Nat) (l : List Int) (w : World) (hst : w.heap[g]? = some (.cells (u32s S) 69 (0, 0)))
    (hr : Kd.C (Kd.int .u8) w A l.length l) (hc : l.length ≤ c) (hl : l.length = 64) (hby : ∀ x ∈ l, 0 ≤ x ∧ x < 256) :
    Calls Try.prog 51 #[.pointer (some ⟨g, 0, none⟩), .slice A l.length c] w fun e w' => e = .returned (.tuple #[]) ∧ w'.heap[g]? = some (.cells (u32s (Sha.take S l)) 69 (0, 0)) ∧ w.grownBy w' (some g) := by
  have hg : g < w.heap.size := (Array.getElem?_eq_some_iff.1 hst).1
  have hv := zeroArr
  have hv2 := zeroSt
  have HR := Lib.hid hr
  have HL := Lib.hid hl
  have HBY := Lib.hid hby
  have HST := Lib.hid hst
  have HS := Lib.hid hS
  clear hr hl hby hst hS
  go_enter Try.func51, Try.ntmps51
  go_wp2_with fail
  refine (table_calls _).mono ?_
  rintro e w1 ⟨rfl, hb1⟩
  have HB1 := Lib.hid hb1
  clear hb1
  go_wp2_with fail
  refine (expand_calls A c l w1 (Kd.C_below HR.out HB1.out) hc HL.out HBY.out).mono ?_
  rintro e w2 ⟨rfl, hb2⟩
  have HB2 := Lib.hid hb2
  clear hb2
  have hg1 : g < w1.heap.size := Nat.lt_of_lt_of_le hg HB1.out.size
  have hg2 : g < w2.heap.size := Nat.lt_of_lt_of_le hg1 HB2.out.size
  have HG := Lib.hid (show w2.heap[g]? = some (.cells (u32s S) 69 (0, 0)) from ((HB2.out.block g hg1).trans (HB1.out.block g hg)).trans HST.out)
  have HB : Hid (Below w.heap.size w w2) := Lib.hid (below_then HB1.out HB1.out.size HB2.out)
  have hsz2 : w.heap.size ≤ w2.heap.size := HB.out.size
  clear HB1 HB2 hg1
  go_wp2_with (first | (refine wpList_store_row rfl 81 (.tmp 4) (.tmp 13) rfl w2.heap.size (u32s Sha.K) rfl rfl 81 _ (heap_alloc2_old w2 _ _) infoArr (by simp [u32s, Sha.K]) (u32s_one _) ?_) | (refine wpList_store_row rfl 81 (.tmp 5) (.tmp 15) rfl (w2.heap.size + 1) (u32s (Sha.words l)) rfl rfl 81 _ ((setRow_other _ _ _ _ (by omega)).trans (heap_alloc2_new w2 _ _)) (by rw [u32s_size, Sha.words_length]; exact infoArr) (by rw [u32s_size, Sha.words_length]; simp) (u32s_one _) ?_; generalize hX : World.setRow _ (w2.heap.size + 1) _ = X; have FX := Lib.hid (take_world hX hg2 HB.out); clear hX) | (refine wpList_load_row rfl 69 (.tmp 17) rfl g rfl 69 (u32s S) (0, 0) _ (FX.out.2.2.1.trans HG.out) Try.underlying69 rfl (by rw [u32s_size, HS.out]; exact infoSt) ?_; have hszX := Lib.hid FX.out.2.2.2.2) | (refine wpList_store_row rfl 69 (.tmp 6) (.tmp 18) rfl X.heap.size (u32s S) rfl rfl 69 _ (heap_alloc_last X _) (by rw [u32s_size, HS.out]; exact infoSt) (by rw [u32s_size, HS.out]; simp) (u32s_one _) ?_; rw [World.setRow_alloc_new]))
  have hgm : g < X.heap.size := by have := hszX.out; omega
  have hnm : w2.heap.size + 1 < X.heap.size := by have := hszX.out; omega
  have hwm : w.heap.size ≤ X.heap.size := by have := hszX.out; omega
  have hT0 : Hid (TakeAt w g w2.heap.size X.heap.size S (Sha.words l) S (X.alloc (.cells (u32s S) 69))) := Lib.hid (by
    obtain ⟨f1, f2, f3, f4, f5⟩ := FX.out
    refine ⟨f4.alloc hwm _, by simp, ?_, ?_, heap_alloc_last X _, ?_⟩
    · rw [heap_alloc_old _ _ (by omega)]; exact f1
    · rw [heap_alloc_old _ _ (by omega)]; exact f2
    · rw [heap_alloc_old _ _ hgm, f3]; exact HG.out)
  clear FX hv hv2 HG HB HST HR HBY hg2
  clear hszX
  go_loopw [19] (fun v wr => ∃ (t : Nat) (s : List Int), t ≤ 64 ∧ v = .int .i64 t ∧ s.length = 8 ∧ Sha.rounds (Sha.K.drop t) ((Sha.words l).drop t) s = Sha.rounds Sha.K (Sha.words l) S ∧ TakeAt w g w2.heap.size X.heap.size S (Sha.words l) s wr) (fun v _ => 64 - (intOf v).toNat)
  case atStart => exact ⟨0, S, by omega, by go_num, HS.out, rfl, hT0.out⟩
  case round =>
    obtain ⟨t, s, ht, rfl, hs, hrd, hT⟩ := hrel
    by_cases hlt : t < 64
    · obtain ⟨a, b, c0, d, e, f, g0, h0, rfl⟩ := u32s_eq8 s hs
      have HT := Lib.hid hT
      have HRD := Lib.hid hrd
      clear hT hrd hs
      have l0 := HT.out.at_l 0 (by simp)
      have l4 := HT.out.at_l 4 (by simp)
      simp only [List.getD_cons_zero, List.getD_cons_succ] at l0 l4
      go_wp2
      go_quiet (fail)
      have HT1 := Lib.hid (HT.out.drewN nq)
      clear HT l0 l4
      generalize wr.drewN nq = wa at *
      have l5 := HT1.out.at_l 5 (by simp)
      have l6 := HT1.out.at_l 6 (by simp)
      have l7 := HT1.out.at_l 7 (by simp)
      simp only [List.getD_cons_zero, List.getD_cons_succ] at l5 l6 l7
      have kt := HT1.out.at_k t hlt
      have wt := HT1.out.at_w t (by rw [Sha.words_length]; exact hlt)
      obtain ⟨kk, hkk⟩ : ∃ x, x = Sha.K.getD t 0 := ⟨_, rfl⟩
      obtain ⟨ww, hww⟩ : ∃ x, x = (Sha.words l).getD t 0 := ⟨_, rfl⟩
      rw [← hkk] at kt
      rw [← hww] at wt
      have HKK := Lib.hid hkk
      have HWW := Lib.hid hww
      clear hkk hww
      go_wp2
      have r0 : (0 : Int) ≤ (t : Int) := by omega
      have r1 : (t : Int) < 64 := by omega
      go_quiet ((go_at_call 61; exact Calls.quiet_of_same (big1_same _ _)))
      clear r0 r1
      have HT2 := Lib.hid (HT1.out.drewN nq)
      clear HT1 l5 l6 l7 kt wt
      generalize wa.drewN nq = wb at *
      have l1 := HT2.out.at_l 1 (by simp)
      have l2 := HT2.out.at_l 2 (by simp)
      simp only [List.getD_cons_zero, List.getD_cons_succ] at l1 l2
      go_wp2
      go_quiet ((go_at_call 61; exact Calls.quiet_of_same (big0_same _ _)))
      have HT3 := Lib.hid (HT2.out.drewN nq)
      clear HT2 l1 l2
      generalize wb.drewN nq = wc at *
      go_wp2
      go_still_tail 2, (by kernel_rfl)
      change wpList _ _ _ _ _ wc.drew
      have HT4 := Lib.hid HT3.out.drew
      clear HT3
      generalize wc.drew = wd at *
      refine wpList_copy_own rfl (.tmp 68) (.tmp 69) 74 74 rfl 67 Try.underlying74 infoU32 X.heap.size 1 7 7 ⟨X.heap.size, 0, none⟩ 7 8 rfl rfl (u32s [a, b, c0, d, e, f, g0, h0]) 69 HT4.out.hl [.int .u32 a, .int .u32 b, .int .u32 c0, .int .u32 d, .int .u32 e, .int .u32 f, .int .u32 g0] rfl ?hsrc (by simp [u32s]) ?hone ?_
      case hsrc =>
        intro j v hj
        rw [add_plain, cell_of_row wd _ j _ _ _ HT4.out.hl]
        match j, hj with
        | 0, hj => exact hj
        | 1, hj => exact hj
        | 2, hj => exact hj
        | 3, hj => exact hj
        | 4, hj => exact hj
        | 5, hj => exact hj
        | 6, hj => exact hj
        | n + 7, hj => simp at hj
      case hone => intro v hv; simp at hv; rcases hv with rfl | rfl | rfl | rfl | rfl | rfl | rfl <;> rfl
      change wpList _ _ _ _ _ (World.setRow wd X.heap.size (u32s [a, a, b, c0, d, e, f, g0]))
      have HT5 := Lib.hid (HT4.out.row [a, a, b, c0, d, e, f, g0] hgm hnm hwm)
      clear HT4
      generalize World.setRow wd X.heap.size (u32s [a, a, b, c0, d, e, f, g0]) = wz at *
      have l0 := HT5.out.at_l 0 (by simp)
      have l4 := HT5.out.at_l 4 (by simp)
      simp only [List.getD_cons_zero, List.getD_cons_succ] at l0 l4
      have f0 := HT5.out.free 0
      have f4 := HT5.out.free 4
      go_wp2
      go_roundw
      case rel =>
        refine ⟨t + 1, _, by omega, by go_num, ?_, ?_, (HT5.out.set 4 _ hgm hnm hwm).set 0 _ hgm hnm hwm⟩
        · rfl
        · rw [← HRD.out]
          have hK : Sha.K.drop t = kk :: Sha.K.drop (t + 1) := by
            rw [HKK.out, List.drop_eq_getElem_cons (show t < Sha.K.length from hlt), List.getD_eq_getElem?_getD, List.getElem?_eq_getElem (show t < Sha.K.length from hlt)]
            rfl
          have hW : (Sha.words l).drop t = ww :: (Sha.words l).drop (t + 1) := by
            have hh : t < (Sha.words l).length := by rw [Sha.words_length]; exact hlt
            rw [HWW.out, List.drop_eq_getElem_cons hh, List.getD_eq_getElem?_getD, List.getElem?_eq_getElem hh]
            rfl
          rw [hK, hW, show IntKind.u32.max = 4294967295 from rfl]
          simp only [Sha.rounds, Sha.step, List.set_cons_succ, List.set_cons_zero]
          unfold Sha.x1 Sha.y1 Sha.ch Sha.maj Sha.xor Sha.and
          congr 2
          · omega
          · congr 4
            omega
      case measure => simp [intOf]; omega
    · obtain rfl : t = 64 := by omega
      rw [List.drop_eq_nil_of_le (show Sha.K.length ≤ 64 from Nat.le_refl _)] at hrd
      have hsL : s = Sha.rounds Sha.K (Sha.words l) S := hrd
      have HT := Lib.hid hT
      have hgr := Lib.hid (grown_below hT.below (some g))
      have HL8 := Lib.hid hs
      have HRD := Lib.hid hsL
      clear hT hrd hs hsL hlt ht
      rw [show ((64 : Nat) : Int) = 64 from rfl]
      go_wp2
      go_loopw [81] (fun v wx => ∃ k : Nat, k ≤ 8 ∧ v = .int .i64 k ∧ w.grownBy wx (some g) ∧ wx.heap[X.heap.size]? = some (.cells (u32s s) 69 (0, 0)) ∧ wx.heap[g]? = some (.cells (u32s ((Sha.take S l).take k ++ S.drop k)) 69 (0, 0))) (fun v _ => 8 - (intOf v).toNat)
      case atStart => exact ⟨0, by omega, by go_num, hgr.out, HT.out.hl, HT.out.hs⟩
      case round =>
        obtain ⟨k, hk, rfl, hgx, hl1, hs1⟩ := hrel
        obtain ⟨wx, rfl⟩ : ∃ wx, wx = wr := ⟨_, rfl⟩
        have hTL : (Sha.take S l).length = 8 := Sha.take_length _ _ HS.out
        have hSL := HS.out
        have hLL := HL8.out
        by_cases hlt : k < 8
        · have ga : wx.cell? ⟨X.heap.size, k, none⟩ = some (.int .u32 (s.getD k 0)) := by rw [cell_of_row wx _ k _ _ _ hl1, u32s_at _ _ (by omega)]
          have gb : wx.cell? ⟨g, k, none⟩ = some (.int .u32 (S.getD k 0)) := by
            rw [cell_of_row wx _ k _ _ _ hs1, u32s_at _ _ (by simp [hTL, hSL]; omega)]
            rw [List.getD_eq_getElem?_getD, List.getElem?_append_right (by simp [hTL]; omega), List.length_take, hTL, Nat.min_eq_left hk, Nat.sub_self, List.getElem?_drop, Nat.add_zero, ← List.getD_eq_getElem?_getD]
          have gf : wx.frozen? ⟨g, k, none⟩ = false := frozen_of_row wx _ k _ _ hs1
          obtain ⟨x, ex⟩ : ∃ x, x = s.getD k 0 := ⟨_, rfl⟩
          obtain ⟨y, ey⟩ : ∃ x, x = S.getD k 0 := ⟨_, rfl⟩
          rw [← ex] at ga
          rw [← ey] at gb
          have EX := Lib.hid ex
          have EY := Lib.hid ey
          have HTL := Lib.hid hTL
          have hgx' := Lib.hid hgx
          have hl1' := Lib.hid hl1
          have hs1' := Lib.hid hs1
          clear hgx hl1 hs1 hTL hSL hLL ex ey
          go_wp2
          have r0 : (0 : Int) ≤ (k : Int) := by omega
          have r1 : (k : Int) < 8 := by omega
          go_still_tail 11, (by kernel_rfl)
          clear r0 r1
          change wpList _ _ _ _ _ wx.drew
          go_wp2
          go_roundw
          case rel =>
            have hTL := HTL.out
            have hSL := HS.out
            have hv : (y + x) % 4294967296 = (Sha.take S l).getD k 0 := by
              rw [EX.out, EY.out, HRD.out]
              have hRL := Sha.rounds_length Sha.K (Sha.words l) S HS.out
              simp only [Sha.take, List.getD_eq_getElem?_getD, List.getElem?_zipWith]
              rw [List.getElem?_eq_getElem (by omega), List.getElem?_eq_getElem (by omega)]
              rfl
            rw [hv]
            refine ⟨k + 1, by omega, by go_num, grown_drew (grown_set hgx'.out k _), ?_, ?_⟩
            · rw [heap_drew, heap_setCell_other _ _ _ _ (by simp; omega)]; exact hl1'.out
            · rw [heap_drew, heap_setCell_same _ _ _ _ _ _ hs1'.out, u32s_setIn, take_set _ _ _ (by omega) (by omega)]
          case measure => simp [intOf]; omega
        · obtain rfl : k = 8 := by omega
          rw [List.drop_eq_nil_of_le (by omega), List.append_nil, List.take_of_length_le (by omega)] at hs1
          have hgx' := Lib.hid hgx
          have hs1' := Lib.hid hs1
          clear hgx hl1 hs1 hTL hSL hLL
          go_wp2
          go_end0
          exact ⟨rfl, hs1'.out, hgx'.out⟩
end Go.Proofs.Ytkbbdbnjplcjdaa
end
section
/-
  What slices.Clone answers at []byte: a row of its own with the same bytes.
-/
namespace Go.Proofs.Ytkbbdbnjplcjdaa
open Go.RowKit Go.Proofs.YtkbbdbnjplcjdaaW.PrintWords Go.Proofs.YtkbbdbnjplcjdaaW.PrintLast Go.Proofs.YtkbbdbnjplcjdaaW.PrintMore
set_option linter.unusedVariables false
set_option linter.unusedSimpArgs false
theorem clone8_calls (A : Option Addr) (c : Nat) (l : List Int) (w : World) (hr : Rd8 w A l) (hl : l.length ≤ 140737488355328) :
    Calls Try.prog 50 #[.slice A l.length c] w fun e w' => ∃ v0_ : Value, e = .returned v0_ ∧ Own8 w' w.heap.size v0_ l ∧ Below w.heap.size w w' := by
  have HR := Lib.hid hr
  have he := fun w n c => Lib.run_eql_slice_nil (P := Try.prog) w 23 5 A n c 0 0 Try.underlying23
  cases A with
  | none =>
    obtain rfl : l = [] := by
      cases l with
      | nil => rfl
      | cons x l =>
        obtain ⟨ad, _, h, _⟩ := Kd.C_get hr 0 0 (by omega) (by simp)
        cases h
    clear hr
    go_enter Try.func50, Try.ntmps50
    go_wp2
    go_ret
    exact ⟨_, rfl, Kd.R_nil _ _ _ _ _, Below.refl _ _⟩
  | some ad =>
    clear hr
    go_enter Try.func50, Try.ntmps50
    go_wp2_with (first | (refine lit_none (w0 := w) (N := 5) w.heap.size rfl rfl rfl (Below.refl _ _) (Nat.le_refl _) ?_; intro v1 w1 ho1 hb1 hg1; have HO := Lib.hid ho1; have HB := Lib.hid hb1; clear ho1 hb1 hg1) | (at_builtin; refine app_row (w0 := w) w.heap.size rfl (.tmp 5) (.tmp 6) rfl v1 [] l (some ad) l.length c rfl rfl HO.out (Kd.C_below HR.out HB.out) HB.out HB.out.size (by simpa using hl) ?_; intro v2 w2 ho2 hb2 hg2 _; have HO2 := Lib.hid ho2; have HB2 := Lib.hid hb2; clear ho2 hb2 hg2))
    go_ret
    exact ⟨_, rfl, HO2.out, HB2.out⟩
end Go.Proofs.Ytkbbdbnjplcjdaa
end
section
/-
  sha.Sum: for every list of bytes that is not too long, what it answers is the hash of the plain text Sha.
-/
namespace Go.Proofs.Ytkbbdbnjplcjdaa
open Go.RowKit Go.Proofs.YtkbbdbnjplcjdaaW.PrintWords Go.Proofs.YtkbbdbnjplcjdaaW.PrintLast Go.Proofs.YtkbbdbnjplcjdaaW.PrintMore
set_option linter.unusedVariables false
set_option linter.unusedSimpArgs false
def sha_Sum.f (l0 : List Int) : Option ByteArray := if Sha.ok l0 = true then some (Sha.sum l0) else none
def sliceLen : Value → Nat
  | .slice _ n _ => n
  | _ => 0
/-- the state's block lies apart from a row of bytes that is appended to -/
theorem st_kept {W w1 : World} {base g : Nat} {v : Value} {xs : List Int} {cs : Array Value} (HO : Own8 W base v xs) (hg : W.heap[g]? = some (.cells cs 69 (0, 0))) (h : W.grownBy w1 v.ownBlock) : w1.heap[g]? = some (.cells cs 69 (0, 0)) :=
  (h.block g (Array.getElem?_eq_some_iff.1 hg).1 (Kd.R_ne HO hg (by decide))).trans hg
/-- bytes that are read lie in another block than the one that is written -/
theorem rd8_kept {W w1 : World} {A : Option Addr} {n : Nat} {xs : List Int} {g : Nat} (h : Kd.C (Kd.int .u8) W A n xs) (hg : W.grownBy w1 (some g)) (hne : ∀ ad, A = some ad → ad.block ≠ g) : Kd.C (Kd.int .u8) w1 A n xs := by
  obtain ⟨h1, h2, h3⟩ := Kd.reads_of_C (d := (0 : Int)) h
  refine Kd.C_of_reads (d := (0 : Int)) (h1 := fun _ => rfl) ⟨h1, h2, fun hn => ?_⟩
  obtain ⟨ad, e, hc⟩ := h3 hn
  refine ⟨ad, e, fun j hj => ?_⟩
  have hb : (ad.add j).block = ad.block := by unfold Addr.add; split <;> rfl
  exact hg.cell (hc j hj) (by rw [hb]; exact fun e2 => hne ad e (Option.some.inj e2))
theorem drop_block (A : Option Addr) (c m g : Nat) (h : ∀ ad, A = some ad → ad.block ≠ g) : ∀ ad, (if c = m then A else A.map (·.add (m * 1))) = some ad → ad.block ≠ g := by
  intro ad e
  split at e
  · exact h ad e
  · obtain ⟨a, ha, rfl⟩ := Option.map_eq_some_iff.1 e
    have hb : (a.add (m * 1)).block = a.block := by unfold Addr.add; split <;> rfl
    rw [hb]
    exact h a ha
theorem own_ne_st {W : World} {base g : Nat} {A : Option Addr} {n c : Nat} {xs : List Int} {cs : Array Value} (HO : Own8 W base (.slice A n c) xs) (hg : W.heap[g]? = some (.cells cs 69 (0, 0))) : ∀ ad, A = some ad → ad.block ≠ g := by
  rintro ad rfl e
  have := Kd.R_ne HO hg (by decide)
  exact this (by simp [Value.ownBlock, e])
theorem blocks_step (p s : List Int) (h : 64 ≤ p.length) (hm : p.length % 64 = 0) : Sha.blocks (p.length / 64) p s = Sha.blocks ((p.drop 64).length / 64) (p.drop 64) (Sha.take s (p.take 64)) := by
  rw [List.length_drop, show p.length / 64 = (p.length - 64) / 64 + 1 by omega]
  rfl
theorem out_snoc (s : List Int) (x : Int) : Sha.out (s ++ [x]) = Sha.out s ++ Sha.bytes4 x := by simp [Sha.out]
theorem take_snoc8 (n i : Nat) (h : i < 8) : (Sha.len8 n).take (i + 1) = (Sha.len8 n).take i ++ [(Sha.len8 n).getD i 0] := by
  rw [List.take_succ_eq_append_getElem (show i < (Sha.len8 n).length from h), List.getD_eq_getElem?_getD, List.getElem?_eq_getElem (show i < (Sha.len8 n).length from h)]
  rfl
set_option maxHeartbeats 4000000 in
set_option maxRecDepth 100000 in
theorem sha_Sum.calls (A0 : Option Addr) (c0 : Nat) (l0 : List Int) (r : ByteArray) (w : World) (hr0 : Kd.C (Kd.int .u8) w A0 l0.length l0) (hc0 : l0.length ≤ c0) (h : sha_Sum.f l0 = some r) :
    Calls Try.prog 31 #[.slice A0 l0.length c0] w fun e w' => e = .returned (.string r) ∧ Below w.heap.size w w' := by
  unfold sha_Sum.f at h
  split at h
  case isFalse => cases h
  rename_i hok
  obtain rfl := Option.some.inj h
  clear h
  obtain ⟨hby, hlen⟩ : (∀ x ∈ l0, 0 ≤ x ∧ x < 256) ∧ l0.length ≤ 140737488355000 := by
    simpa [Sha.ok] using hok
  clear hok
  have HR := Lib.hid hr0
  have HBY := Lib.hid hby
  have hv := zeroSt
  clear hr0 hby
  go_enter Try.func31, Try.ntmps31
  go_wp2_with (first | (refine wpList_buildAs rfl 69 _ (u32s Sha.H0) rfl (by kernel_rfl) ?_) | (refine wpList_store_row rfl 69 (.tmp 3) (.tmp 10) rfl w.heap.size (u32s Sha.H0) rfl rfl 69 _ (heap_alloc_last w _) infoSt (by rw [u32s_size]; rfl) (u32s_one _) ?_; rw [World.setRow_alloc_new]; generalize hX : World.alloc w (.cells (u32s Sha.H0) 69) = X; have HX := Lib.hid hX; clear hX) | fail)
  have F1 : Hid (X.heap[w.heap.size]? = some (.cells (u32s Sha.H0) 69 (0, 0))) := Lib.hid (by rw [← HX.out]; exact heap_alloc_last w _)
  have F2 : Hid (Below w.heap.size w X) := Lib.hid (by rw [← HX.out]; exact (Below.refl _ _).alloc (Nat.le_refl _) _)
  have F3 : w.heap.size ≤ X.heap.size := F2.out.size
  clear HX hv
  refine (clone8_calls A0 c0 l0 X (Kd.C_below HR.out F2.out) (by omega)).mono ?_
  rintro e W1 ⟨v1, rfl, ho1, hb1⟩
  have G1 : Hid (W1.heap[w.heap.size]? = some (.cells (u32s Sha.H0) 69 (0, 0))) := Lib.hid ((hb1.block _ (Array.getElem?_eq_some_iff.1 F1.out).1).trans F1.out)
  have G2 : Hid (Below w.heap.size w W1) := Lib.hid (below_then F2.out F3 hb1)
  have G3 : Hid (Own8 W1 w.heap.size v1 l0) := Lib.hid (Kd.R_lower ho1 F3)
  have G4 : w.heap.size ≤ W1.heap.size := G2.out.size
  clear F1 F2 F3 ho1 hb1
  go_wp2_with (first | (at_builtin; refine app_one (w0 := w) w.heap.size rfl (.tmp 12) (.tmp 13) rfl v1 l0 128 rfl rfl G3.out G2.out G4 (by omega) ?_; intro v2 w2 ho2 hb2 hg2 _; have HO2 := Lib.hid ho2; have HB2 := Lib.hid hb2; have HS2 := Lib.hid (st_kept G3.out G1.out hg2); clear ho2 hb2 hg2) | fail)
  obtain ⟨J, hJ⟩ : ∃ J, J = (119 - l0.length % 64) % 64 := ⟨_, rfl⟩
  have HJ := Lib.hid hJ
  clear hJ G1 G2 G3 G4
  go_loopw [4] (fun v wr => ∃ (j : Nat) (p : List Int) (A : Option Addr) (c : Nat), j ≤ J ∧ v = .slice A p.length c ∧ p = l0 ++ 128 :: List.replicate j 0 ∧ Own8 wr w.heap.size (.slice A p.length c) p ∧ wr.heap[w.heap.size]? = some (.cells (u32s Sha.H0) 69 (0, 0)) ∧ Below w.heap.size w wr) (fun v _ => l0.length + 1 + J - sliceLen v)
  case atStart =>
    obtain ⟨A, c, rfl⟩ := Kd.R_slice HO2.out
    exact ⟨0, l0 ++ [128], A, c, by omega, rfl, rfl, HO2.out, HS2.out, HB2.out⟩
  case round =>
    obtain ⟨j, p, A, c, hj, rfl, hp, ho, hs, hb⟩ := hrel
    have hpl : p.length = l0.length + 1 + j := by rw [hp]; simp; omega
    have HP := Lib.hid hp
    have HPL := Lib.hid hpl
    have HO := Lib.hid ho
    have HS := Lib.hid hs
    have HB := Lib.hid hb
    have hsz := hb.size
    by_cases hlt : j < J
    · have hmod : ¬ (p.length : Int) % 64 = 56 := by have := HJ.out; omega
      clear hp hpl ho hs hb
      go_wp2_with (first | (at_builtin; refine app_one (w0 := w) w.heap.size rfl (.tmp 19) (.tmp 20) rfl (.slice A p.length c) p 0 rfl rfl HO.out HB.out hsz (by have := HPL.out; have := HJ.out; omega) ?_; intro v2 w2 ho2 hb2 hg2 _; have HO3 := Lib.hid ho2; have HB3 := Lib.hid hb2; have HS3 := Lib.hid (st_kept HO.out HS.out hg2); clear ho2 hb2 hg2) | fail)
      go_roundw
      case rel =>
        obtain ⟨A', c', rfl⟩ := Kd.R_slice HO3.out
        exact ⟨j + 1, p ++ [0], A', c', by omega, rfl, by rw [HP.out, List.replicate_succ']; simp, HO3.out, HS3.out, HB3.out⟩
      case measure =>
        obtain ⟨A', c', rfl⟩ := Kd.R_slice HO3.out
        have := HPL.out
        simp [sliceLen]
        omega
    · have hmod : (p.length : Int) % 64 = 56 := by have := HJ.out; omega
      obtain rfl : j = J := by omega
      clear hp hpl ho hs hb hlt hj
      go_wp2_with fail
      clear hmod
      go_loopw [4, 6] (fun v k wx => ∃ (i : Nat) (q : List Int) (A : Option Addr) (c : Nat), i ≤ 8 ∧ k = .int .i64 (7 - (i : Int)) ∧ v = .slice A q.length c ∧ q = p ++ (Sha.len8 l0.length).take i ∧ Own8 wx w.heap.size (.slice A q.length c) q ∧ wx.heap[w.heap.size]? = some (.cells (u32s Sha.H0) 69 (0, 0)) ∧ Below w.heap.size w wx) (fun _ k _ => (1 + intOf k).toNat)
      case atStart => exact ⟨0, p, A, c, by omega, by go_num, rfl, by simp, HO.out, HS.out, HB.out⟩
      case round =>
        obtain ⟨i, q, A, c, hi, rfl, rfl, hq, ho, hs, hb⟩ := hrel
        obtain ⟨wx, rfl⟩ : ∃ wx, wx = wr := ⟨_, rfl⟩
        have hql : q.length = l0.length + 1 + j + i := by rw [hq, List.length_append, HPL.out, List.length_take, show (Sha.len8 l0.length).length = 8 from rfl]; omega
        have HQ := Lib.hid hq
        have HQL := Lib.hid hql
        have HO4 := Lib.hid ho
        have HS4 := Lib.hid hs
        have HB4 := Lib.hid hb
        have hsz4 := hb.size
        clear hq hql ho hs hb
        by_cases hlt : i < 8
        · have h8 := take_snoc8 l0.length i hlt
          have H8 := Lib.hid h8
          clear h8
          have hcs : i = 0 ∨ i = 1 ∨ i = 2 ∨ i = 3 ∨ i = 4 ∨ i = 5 ∨ i = 6 ∨ i = 7 := by omega
          rcases hcs with rfl | rfl | rfl | rfl | rfl | rfl | rfl | rfl
          all_goals
            clear hlt hi
            go_wp2_with (first | (at_builtin; refine app_one (w0 := w) w.heap.size rfl (.tmp 30) (.tmp 36) rfl (.slice A q.length c) q _ rfl rfl HO4.out HB4.out hsz4 (by have := HQL.out; have := HJ.out; omega) ?_; intro v2 w2 ho2 hb2 hg2 _; have HO3 := Lib.hid ho2; have HB3 := Lib.hid hb2; have HS3 := Lib.hid (st_kept HO4.out HS4.out hg2); clear ho2 hb2 hg2) | fail)
            go_roundw
            case rel =>
              obtain ⟨A', c', rfl⟩ := Kd.R_slice HO3.out
              (first | refine ⟨1, _, A', c', by omega, by go_num, rfl, ?_, HO3.out, HS3.out, HB3.out⟩ | refine ⟨2, _, A', c', by omega, by go_num, rfl, ?_, HO3.out, HS3.out, HB3.out⟩ | refine ⟨3, _, A', c', by omega, by go_num, rfl, ?_, HO3.out, HS3.out, HB3.out⟩ | refine ⟨4, _, A', c', by omega, by go_num, rfl, ?_, HO3.out, HS3.out, HB3.out⟩ | refine ⟨5, _, A', c', by omega, by go_num, rfl, ?_, HO3.out, HS3.out, HB3.out⟩ | refine ⟨6, _, A', c', by omega, by go_num, rfl, ?_, HO3.out, HS3.out, HB3.out⟩ | refine ⟨7, _, A', c', by omega, by go_num, rfl, ?_, HO3.out, HS3.out, HB3.out⟩ | refine ⟨8, _, A', c', by omega, by go_num, rfl, ?_, HO3.out, HS3.out, HB3.out⟩)
              rw [H8.out, ← List.append_assoc, ← HQ.out]
              congr 2
              simp [Sha.len8]
              omega
            case measure => simp [intOf]
        · obtain rfl : i = 8 := by omega
          have hpad : q = Sha.pad l0 := by
            rw [HQ.out, HP.out, HJ.out]
            rfl
          have HPAD := Lib.hid hpad
          clear hpad hlt hi
          rw [show (7 - ((8 : Nat) : Int)) = -1 from rfl]
          have hqb : ∀ x ∈ q, 0 ≤ x ∧ x < 256 := by
            rw [HPAD.out]
            intro x hx
            simp only [Sha.pad, List.mem_append, List.mem_cons, List.mem_replicate] at hx
            rcases hx with (hx | rfl | ⟨_, rfl⟩) | hx
            · exact HBY.out x hx
            · omega
            · omega
            · simp only [Sha.len8, List.mem_cons, List.not_mem_nil, or_false] at hx
              omega
          have HQB := Lib.hid hqb
          have hq64 : q.length % 64 = 0 := by rw [HPAD.out]; exact Sha.pad_length l0
          have HQ64 := Lib.hid hq64
          have HNE := Lib.hid (own_ne_st HO4.out HS4.out)
          have HRD := Lib.hid (Kd.R_reads' HO4.out)
          clear hqb hq64 HP HPL HO HS HB
          go_wp2_with fail
          go_loopw [4] (fun v wy => ∃ (A : Option Addr) (c : Nat) (p : List Int) (s : List Int), v = .slice A p.length c ∧ p.length ≤ c ∧ p.length % 64 = 0 ∧ (∀ x ∈ p, 0 ≤ x ∧ x < 256) ∧ s.length = 8 ∧ Sha.blocks (p.length / 64) p s = Sha.blocks ((Sha.pad l0).length / 64) (Sha.pad l0) Sha.H0 ∧ (∀ ad, A = some ad → ad.block ≠ w.heap.size) ∧ Kd.C (Kd.int .u8) wy A p.length p ∧ wy.heap[w.heap.size]? = some (.cells (u32s s) 69 (0, 0)) ∧ Below w.heap.size w wy) (fun v _ => sliceLen v)
          case atStart => exact ⟨A, c, q, Sha.H0, rfl, HRD.out.2.1, HQ64.out, HQB.out, rfl, by rw [← HPAD.out], HNE.out, HRD.out.2.2, HS4.out, HB4.out⟩
          case round =>
            obtain ⟨A, c, p, s, rfl, hpc, hp64, hpb, hs8, hbl, hne, hrd, hst, hb⟩ := hrel
            obtain ⟨wy, rfl⟩ : ∃ wy, wy = wr := ⟨_, rfl⟩
            have hszy := hb.size
            have HST := Lib.hid hst
            have HBY' := Lib.hid hb
            have HPB := Lib.hid hpb
            have HNY := Lib.hid hne
            have HRY := Lib.hid hrd
            have HBL := Lib.hid hbl
            have HS8 := Lib.hid hs8
            clear hst hb hpb hne hrd hbl hs8
            obtain ⟨i5, hi5, _, hsz5, _⟩ := info_parts infoB
            by_cases h0 : 0 < p.length
            · have h64 : 64 ≤ p.length := by omega
              obtain ⟨b, hbq⟩ : ∃ b, b = p.take 64 := ⟨_, rfl⟩
              obtain ⟨r, hrq⟩ : ∃ b, b = p.drop 64 := ⟨_, rfl⟩
              obtain ⟨A2, hA2⟩ : ∃ A2, A2 = if c = 64 then A else A.map (·.add (64 * 1)) := ⟨_, rfl⟩
              have hbl : b.length = 64 := by rw [hbq, List.length_take]; omega
              have hrl : r.length = p.length - 64 := by rw [hrq, List.length_drop]
              have hto : ∀ W : World, (Instr.slice 23 (.slice A p.length c) none (some (.int .i64 64)) none).run Try.prog W = .ok (.slice A b.length c) W := by
                intro W
                rw [hbl]
                exact cut_to (P := Try.prog) 23 5 .i64 Try.underlying23 hi5 A p.length c 64 (by omega) (by omega) hpc W
              have hfrom : ∀ W : World, (Instr.slice 23 (.slice A p.length c) (some (.int .i64 64)) none none).run Try.prog W = .ok (.slice A2 r.length (c - 64)) W := by
                intro W
                rw [hrl, hA2]
                exact cut_from (P := Try.prog) 23 5 .i64 Try.underlying23 hi5 1 hsz5 A p.length c 64 (by omega) (by omega) W
              have HCB : Hid (Kd.C (Kd.int .u8) wy A b.length b) := Lib.hid (by rw [hbq]; exact Kd.C_take HRY.out h64)
              have HCR : Hid (Kd.C (Kd.int .u8) wy A2 r.length r) := Lib.hid (by rw [hrq, hA2]; exact Kd.C_drop (k := Kd.int .u8) HRY.out h64 hpc)
              have HNR : Hid (∀ ad, A2 = some ad → ad.block ≠ w.heap.size) := Lib.hid (by rw [hA2]; exact drop_block A c 64 _ HNY.out)
              have HBE := Lib.hid hbl
              have HBQ := Lib.hid hbq
              have HRQ := Lib.hid hrq
              have HRL := Lib.hid hrl
              have hbc : b.length ≤ c := by omega
              clear hbq hrq hA2 hbl hrl hi5
              go_wp2_with fail
              refine (take_calls w.heap.size s HS8.out A c b wy HST.out HCB.out hbc HBE.out (fun x hx => HPB.out x (by rw [HBQ.out] at hx; exact List.mem_of_mem_take hx))).mono ?_
              rintro e w3 ⟨rfl, hst3, hg3⟩
              have HST3 := Lib.hid hst3
              have HG3 := Lib.hid hg3
              clear hst3 hg3
              go_wp2
              go_roundw
              case rel =>
                refine ⟨A2, c - 64, r, Sha.take s b, rfl, by have := HRL.out; omega, by have := HRL.out; omega, fun x hx => HPB.out x (by rw [HRQ.out] at hx; exact List.mem_of_mem_drop hx), Sha.take_length _ _ HS8.out, ?_, HNR.out, rd8_kept HCR.out HG3.out HNR.out, HST3.out, ?_⟩
                · rw [← HBL.out, blocks_step p s h64 hp64, HRQ.out, HBQ.out]
                · exact HBY'.out.grown HG3.out hszy (fun k e => by cases e; exact Nat.le_refl _)
              case measure =>
                have := HRL.out
                simp [sliceLen]
                omega
            · have hp0 : p.length = 0 := by omega
              obtain rfl : p = [] := List.eq_nil_of_length_eq_zero hp0
              have hfin : s = Sha.blocks ((Sha.pad l0).length / 64) (Sha.pad l0) Sha.H0 := HBL.out
              have HFIN := Lib.hid hfin
              clear hfin hp0 h0 hp64 HBL
              obtain ⟨s0, s1, s2, s3, s4, s5, s6, s7, rfl⟩ := u32s_eq8 s HS8.out
              have x0 : ∀ w, (Instr.index 69 (.agg (u32s [s0, s1, s2, s3, s4, s5, s6, s7])) (.int .i64 0)).run Try.prog w = .ok (.int .u32 s0) w := fun w => by kernel_rfl
              have x1 : ∀ w, (Instr.index 69 (.agg (u32s [s0, s1, s2, s3, s4, s5, s6, s7])) (.int .i64 1)).run Try.prog w = .ok (.int .u32 s1) w := fun w => by kernel_rfl
              have x2 : ∀ w, (Instr.index 69 (.agg (u32s [s0, s1, s2, s3, s4, s5, s6, s7])) (.int .i64 2)).run Try.prog w = .ok (.int .u32 s2) w := fun w => by kernel_rfl
              have x3 : ∀ w, (Instr.index 69 (.agg (u32s [s0, s1, s2, s3, s4, s5, s6, s7])) (.int .i64 3)).run Try.prog w = .ok (.int .u32 s3) w := fun w => by kernel_rfl
              have x4 : ∀ w, (Instr.index 69 (.agg (u32s [s0, s1, s2, s3, s4, s5, s6, s7])) (.int .i64 4)).run Try.prog w = .ok (.int .u32 s4) w := fun w => by kernel_rfl
              have x5 : ∀ w, (Instr.index 69 (.agg (u32s [s0, s1, s2, s3, s4, s5, s6, s7])) (.int .i64 5)).run Try.prog w = .ok (.int .u32 s5) w := fun w => by kernel_rfl
              have x6 : ∀ w, (Instr.index 69 (.agg (u32s [s0, s1, s2, s3, s4, s5, s6, s7])) (.int .i64 6)).run Try.prog w = .ok (.int .u32 s6) w := fun w => by kernel_rfl
              have x7 : ∀ w, (Instr.index 69 (.agg (u32s [s0, s1, s2, s3, s4, s5, s6, s7])) (.int .i64 7)).run Try.prog w = .ok (.int .u32 s7) w := fun w => by kernel_rfl
              go_wp2_with (first | (refine wpList_load_row rfl 69 (.tmp 3) rfl w.heap.size rfl 69 (u32s [s0, s1, s2, s3, s4, s5, s6, s7]) (0, 0) _ HST.out Try.underlying69 rfl infoSt ?_) | fail)
              go_loopw [7, 47] (fun v k wz => ∃ (i : Nat) (A : Option Addr) (c : Nat) (q : List Int), i ≤ 8 ∧ k = .int .i64 i ∧ v = .slice A q.length c ∧ q = Sha.out ([s0, s1, s2, s3, s4, s5, s6, s7].take i) ∧ Own8 wz w.heap.size (.slice A q.length c) q ∧ Below w.heap.size w wz) (fun _ k _ => 8 - (intOf k).toNat)
              case atStart => exact ⟨0, none, 0, [], by omega, by go_num, rfl, rfl, Kd.R_nil _ _ _ _ _, HBY'.out⟩
              case round =>
                obtain ⟨i, A, c, q, hi, rfl, rfl, hq, ho, hb⟩ := hrel
                obtain ⟨wz, rfl⟩ : ∃ wz, wz = wr := ⟨_, rfl⟩
                have hszz := hb.size
                have HQ' := Lib.hid hq
                have HOZ := Lib.hid ho
                have HBZ := Lib.hid hb
                have hql : q.length ≤ 32 := by rw [hq, Sha.out_length, List.length_take]; simp; omega
                clear hq ho hb
                by_cases hlt : i < 8
                · have hcs : i = 0 ∨ i = 1 ∨ i = 2 ∨ i = 3 ∨ i = 4 ∨ i = 5 ∨ i = 6 ∨ i = 7 := by omega
                  rcases hcs with rfl | rfl | rfl | rfl | rfl | rfl | rfl | rfl
                  all_goals
                    clear hlt hi
                    go_wp2_with (first | (at_builtin; refine app_row (w0 := w) w.heap.size rfl (.tmp 50) (.tmp 62) rfl (.slice A q.length c) q (Sha.bytes4 _) (some ⟨wz.heap.size, 0, none⟩) 4 4 rfl rfl (Kd.R_alloc HOZ.out _) (rd_new wz (Sha.bytes4 _) (by simp [Sha.bytes4])) (HBZ.out.alloc hszz _) (by simp; omega) (by omega) ?_; intro v2 w2 ho2 hb2 hg2 _; have HO3 := Lib.hid ho2; have HB3 := Lib.hid hb2; clear ho2 hb2 hg2) | fail)
                    go_roundw
                    case rel =>
                      obtain ⟨A', c', rfl⟩ := Kd.R_slice HO3.out
                      (first | exact ⟨1, A', c', _, by omega, by go_num, rfl, by rw [HQ'.out, ← out_snoc]; rfl, HO3.out, HB3.out⟩ | exact ⟨2, A', c', _, by omega, by go_num, rfl, by rw [HQ'.out, ← out_snoc]; rfl, HO3.out, HB3.out⟩ | exact ⟨3, A', c', _, by omega, by go_num, rfl, by rw [HQ'.out, ← out_snoc]; rfl, HO3.out, HB3.out⟩ | exact ⟨4, A', c', _, by omega, by go_num, rfl, by rw [HQ'.out, ← out_snoc]; rfl, HO3.out, HB3.out⟩ | exact ⟨5, A', c', _, by omega, by go_num, rfl, by rw [HQ'.out, ← out_snoc]; rfl, HO3.out, HB3.out⟩ | exact ⟨6, A', c', _, by omega, by go_num, rfl, by rw [HQ'.out, ← out_snoc]; rfl, HO3.out, HB3.out⟩ | exact ⟨7, A', c', _, by omega, by go_num, rfl, by rw [HQ'.out, ← out_snoc]; rfl, HO3.out, HB3.out⟩ | exact ⟨8, A', c', _, by omega, by go_num, rfl, by rw [HQ'.out, ← out_snoc]; rfl, HO3.out, HB3.out⟩)
                    case measure => simp [intOf]
                · obtain rfl : i = 8 := by omega
                  have hcv := own_string (P := Try.prog) Try.underlying23 Try.underlying5 Try.underlying9 (Kd.own_of_R HOZ.out)
                  go_wp2
                  go_ret
                  refine ⟨?_, HBZ.out⟩
                  have hq8 : q = Sha.out [s0, s1, s2, s3, s4, s5, s6, s7] := HQ'.out
                  have hsum : strOfNums q = Sha.sum l0 := by rw [hq8, HFIN.out]; rfl
                  show Ending.returned (.string (strOfNums q)) = _
                  rw [hsum]
end Go.Proofs.Ytkbbdbnjplcjdaa
end
section
/-
  (seats without sha.Mac) A row of bytes that a conversion of a text has laid (the model marks it), and an append onto it.
-/
namespace Go.Proofs.Ytkbbdbnjplcjdaa
open Go.RowKit Go.Proofs.YtkbbdbnjplcjdaaW.PrintWords Go.Proofs.YtkbbdbnjplcjdaaW.PrintLast Go.Proofs.YtkbbdbnjplcjdaaW.PrintMore
set_option linter.unusedVariables false
set_option linter.unusedSimpArgs false
/-- the row of a conversion: all of its cells lie ahead of the mark -/
def Marked8 (W : World) (base : Nat) (v : Value) (xs : List Int) : Prop :=
  ∃ g cap lo hi, ∃ cur : Array Value, v = .slice (some ⟨g, 0, none⟩) xs.length cap ∧ base ≤ g ∧ g < W.heap.size ∧ W.heap[g]? = some (.cells cur 5 (lo, hi)) ∧ cap ≤ lo ∧ xs.length ≤ cap ∧ cap ≤ maxLen ∧ cur.size = cap ∧ cur.toList.take xs.length = xs.map (Value.int .u8)
/-- a row of the call's own, or one of a conversion's -/
def Any8 (W : World) (base : Nat) (v : Value) (xs : List Int) : Prop := Own8 W base v xs ∨ Marked8 W base v xs
theorem marked_conv (W : World) (s : ByteArray) (hs : s.size ≤ maxLen) : Marked8 (Lib.bytesWorld W 5 s) W.heap.size (.slice (some ⟨W.heap.size, 0, none⟩) s.size (grownCap W s.size 0 5)) (bytesOf s) := by
  have hge : s.size ≤ grownCap W s.size 0 5 := grownCap_ge _ _ _ _
  have hsz : (Lib.bytesCells W 5 s).size = grownCap W s.size 0 5 := by
    simp only [Lib.bytesCells, Array.size_append, Array.size_map, Array.size_replicate]
    have : s.data.size = s.size := rfl
    omega
  refine ⟨W.heap.size, _, _, _, _, by rw [bytesOf_length], Nat.le_refl _, by rw [Lib.bytesWorld_size]; omega, Lib.bytesWorld_at_new W 5 s, by rw [hsz]; exact Nat.le_refl _, by rw [bytesOf_length]; exact hge, grownCap_le_maxLen _ _ _ _ hs, hsz, ?_⟩
  rw [bytesOf_length]
  simp only [Lib.bytesCells, Array.toList_append, Array.toList_map, bytesOf, List.map_map]
  rw [List.take_append_of_le_length (by simp), List.take_of_length_le (by simp)]
  rfl
theorem marked_cell {W : World} {g lo hi : Nat} {cur : Array Value} {xs : List Int} (hh : W.heap[g]? = some (.cells cur 5 (lo, hi))) (ht : cur.toList.take xs.length = xs.map (Value.int .u8)) (j : Nat) (hj : j < xs.length) : W.cell? ⟨g, j, none⟩ = some (.int .u8 (xs.getD j 0)) := by
  have h1 : (cur.toList.take xs.length)[j]? = (xs.map (Value.int .u8))[j]? := by rw [ht]
  rw [List.getElem?_take_of_lt hj, List.getElem?_map, List.getElem?_eq_getElem hj] at h1
  simp only [World.cell?, hh]
  simp at h1 ⊢
  rw [h1, List.getElem?_eq_getElem hj]
  rfl
theorem any_reads {W : World} {base : Nat} {v : Value} {xs : List Int} (h : Any8 W base v xs) : ∃ A c, v = .slice A xs.length c ∧ xs.length ≤ c ∧ Kd.C (Kd.int .u8) W A xs.length xs := by
  rcases h with h | ⟨g, cap, lo, hi, cur, rfl, hb, hg, hh, hlo, hle, hmx, hsz, ht⟩
  · obtain ⟨A, c, rfl⟩ := Kd.R_slice h
    obtain ⟨_, h2, h3⟩ := Kd.R_reads' h
    exact ⟨A, c, rfl, h2, h3⟩
  · refine ⟨_, _, rfl, hle, Kd.C_of_reads (d := (0 : Int)) (h1 := fun _ => rfl) ⟨rfl, by simp only [maxLen] at hmx; omega, fun _ => ⟨_, rfl, fun j hj => ?_⟩⟩⟩
    rw [add_plain]
    exact marked_cell hh ht j hj
theorem below_setCell {base g : Nat} {w0 W : World} (h : Below base w0 W) (hg : base ≤ g) (i : Nat) (v : Value) : Below base w0 (W.setCell ⟨g, i, none⟩ v) :=
  ⟨h.os, h.tape, h.output, by simp only [World.setCell, Array.size_modify]; exact h.size, fun k hk => by
    rw [heap_setCell_other _ _ _ _ (show k ≠ g by omega)]
    exact h.block k hk⟩
section
variable {ops : Array Oper} {rest : List Oper} {o : Oper} {a : Act} {Q : Exit → Act → World → Prop}
end
end Go.Proofs.Ytkbbdbnjplcjdaa
end
section
/-
  hash.whole: have all texts 32 bytes?
-/
namespace Go.Proofs.Ytkbbdbnjplcjdaa
open Go.RowKit Go.Proofs.YtkbbdbnjplcjdaaW.PrintWords Go.Proofs.YtkbbdbnjplcjdaaW.PrintLast Go.Proofs.YtkbbdbnjplcjdaaW.PrintMore
set_option linter.unusedVariables false
set_option linter.unusedSimpArgs false
def wholeB (l : List ByteArray) : Bool := l.all fun s => decide (s.size = 32)
def hash_whole.f (l0 : List ByteArray) : Option Bool := some (wholeB l0)
theorem isHash_calls (s : ByteArray) (w : World) (b : Bool) (hb : ((s.size : Int) == 32) = b) :
    Calls Try.prog 57 #[.string s] w fun e w' => e = .returned (.bool b) ∧ w = w' := by
  go_enter Try.func57, Try.ntmps57
  go_wp2
  go_ret
  exact ⟨rfl, rfl⟩
theorem whole1_calls (s : ByteArray) (w : World) (b : Bool) (hb : ((s.size : Int) == 32) = !b) :
    Calls Try.prog 56 #[.string s] w fun e w' => e = .returned (.bool b) ∧ w = w' := by
  have HB := Lib.hid hb
  clear hb
  go_enter Try.func56, Try.ntmps56
  go_wp2_with fail
  refine (isHash_calls s _ (!b) HB.out).mono ?_
  rintro e w' ⟨rfl, rfl⟩
  go_wp2
  go_ret
  exact ⟨by simp, rfl⟩
def IdxPost (l : List ByteArray) (w : World) (e : Ending) (w' : World) : Prop := ∃ i : Int, e = .returned (.int .i64 i) ∧ (decide (0 ≤ i) = !(wholeB l)) ∧ w = w'
theorem wholeB_of (l : List ByteArray) (h : ∀ j, j < l.length → (rdOf ByteArray.empty l (j : Int)).size = 32) : wholeB l = true := by
  unfold wholeB
  rw [List.all_eq_true]
  intro x hx
  obtain ⟨j, hj, rfl⟩ := List.getElem_of_mem hx
  have := h j hj
  simp only [rdOf, Int.toNat_natCast] at this
  rw [List.getD_eq_getElem?_getD, List.getElem?_eq_getElem hj] at this
  simpa using this
theorem wholeB_not (l : List ByteArray) (j : Nat) (hj : j < l.length) (h : ¬ (rdOf ByteArray.empty l (j : Int)).size = 32) : wholeB l = false := by
  rw [Bool.eq_false_iff]
  intro hw
  unfold wholeB at hw
  rw [List.all_eq_true] at hw
  have := hw l[j] (List.getElem_mem hj)
  apply h
  simp only [rdOf, Int.toNat_natCast]
  rw [List.getD_eq_getElem?_getD, List.getElem?_eq_getElem hj]
  simpa using this
set_option maxHeartbeats 1000000 in
set_option maxRecDepth 100000 in
theorem idx_calls (A0 : Option Addr) (c0 : Nat) (l0 : List ByteArray) (w : World) (hr0 : Kd.C Kd.string w A0 l0.length l0) :
    Calls Try.prog 67 #[.slice A0 l0.length c0, .func (.func 56) #[] #[]] w (IdxPost l0 w) := by
  have HR0 := Lib.hid hr0
  have HL := Lib.hid (Kd.reads_of_C (d := ByteArray.empty) hr0).2.1
  clear hr0
  go_enter Try.func67, Try.ntmps67
  go_wp2
  go_loop [8] (fun i => ∃ k : Nat, k ≤ l0.length ∧ i = .int .i64 k ∧ Hid (∀ j, j < k → (rdOf ByteArray.empty l0 (j : Int)).size = 32)) (fun i => l0.length - (intOf i).toNat)
  case atStart => exact ⟨0, Nat.zero_le _, rfl, Lib.hid (fun j hj => absurd hj (Nat.not_lt_zero _))⟩
  case round =>
    obtain ⟨k, hk, rfl, HP⟩ := hrel
    have hlen := HL.out
    by_cases hlt : k < l0.length
    · have p1 : 0 ≤ (k : Int) := by omega
      have q1 : (k : Int) < l0.length := by omega
      obtain ⟨ad, rfl, hcell⟩ := Kd.at_string HR0.out k p1 q1
      simp only [Int.toNat_natCast] at hcell
      by_cases h32 : (rdOf ByteArray.empty l0 (k : Int)).size = 32
      · have H32 := Lib.hid h32
        clear h32
        go_wp2_with fail
        refine (whole1_calls _ _ false (by rw [H32.out]; rfl)).mono ?_
        rintro e w' ⟨rfl, rfl⟩
        go_wp2
        go_round
        case rel =>
          exact ⟨k + 1, by omega, by go_num, Lib.hid (fun j hj => by
            rcases Nat.lt_or_ge j k with hj2 | hj2
            · exact HP.out j hj2
            · obtain rfl : j = k := by omega
              exact H32.out)⟩
        case measure => simp [intOf]; omega
      · have H32 := Lib.hid h32
        clear h32
        go_wp2_with fail
        refine (whole1_calls _ _ true (by have := H32.out; simp; omega)).mono ?_
        rintro e w' ⟨rfl, rfl⟩
        go_wp2
        go_ret
        exact ⟨(k : Int), rfl, by rw [wholeB_not _ k hlt H32.out]; simp, rfl⟩
    · obtain rfl : k = l0.length := by omega
      go_wp2
      go_ret
      exact ⟨-1, rfl, by rw [wholeB_of _ HP.out]; rfl, rfl⟩
set_option maxRecDepth 100000 in
theorem contains_calls (A0 : Option Addr) (c0 : Nat) (l0 : List ByteArray) (w : World) (hr0 : Kd.C Kd.string w A0 l0.length l0) :
    Calls Try.prog 55 #[.slice A0 l0.length c0, .func (.func 56) #[] #[]] w fun e w' => e = .returned (.bool (!(wholeB l0))) ∧ w = w' := by
  have HR0 := Lib.hid hr0
  clear hr0
  go_enter Try.func55, Try.ntmps55
  go_wp2_with fail
  refine (idx_calls A0 c0 l0 _ HR0.out).mono ?_
  rintro e w' ⟨i, rfl, hi, rfl⟩
  have HI := Lib.hid hi
  clear hi
  go_wp2
  go_ret
  exact ⟨congrArg (fun b => Ending.returned (Value.bool b)) HI.out, rfl⟩
set_option maxRecDepth 100000 in
theorem hash_whole.calls (A0 : Option Addr) (c0 : Nat) (l0 : List ByteArray) (r : Bool) (w : World) (hr0 : Kd.C Kd.string w A0 l0.length l0) (hc0 : l0.length ≤ c0) (h : hash_whole.f l0 = some r) :
    Calls Try.prog 41 #[.slice A0 l0.length c0] w fun e w' => e = .returned (.bool r) ∧ Below w.heap.size w w' := by
  obtain rfl := Option.some.inj h
  clear h
  have HR0 := Lib.hid hr0
  clear hr0
  go_enter Try.func41, Try.ntmps41
  go_wp2_with fail
  refine (contains_calls A0 c0 l0 _ HR0.out).mono ?_
  rintro e w' ⟨rfl, rfl⟩
  go_wp2
  go_ret
  exact ⟨by simp, Below.refl _ _⟩
end Go.Proofs.Ytkbbdbnjplcjdaa
end
section
/-
  A constant's bytes: the row of a literal that a conversion to its own type marks.
-/
namespace Go.Proofs.Ytkbbdbnjplcjdaa
open Go.RowKit Go.Proofs.YtkbbdbnjplcjdaaW.PrintWords Go.Proofs.YtkbbdbnjplcjdaaW.PrintLast Go.Proofs.YtkbbdbnjplcjdaaW.PrintMore
set_option linter.unusedVariables false
set_option linter.unusedSimpArgs false
theorem freeze_block {W : World} {g k : Nat} {C : Array Value} {e : TypeId} (h : W.heap[g]? = some (.cells C e (0, 0))) : (W.freeze ⟨g, k, none⟩ 1).heap[g]? = some (.cells C e (k, k + 1)) := by
  unfold World.freeze
  rw [if_neg (by decide)]
  simp [Array.getElem?_modify, h]
theorem freeze_other {W : World} {g k j : Nat} (hj : j ≠ g) : (W.freeze ⟨g, k, none⟩ 1).heap[j]? = W.heap[j]? := by
  unfold World.freeze
  rw [if_neg (by decide)]
  simp [Array.getElem?_modify, Ne.symm hj]
/-- the conversion of a row of the call's own, that is not empty -/
theorem conv_run {W : World} {base : Nat} {ok : Nat → Prop} {A : Option Addr} {n c : Nat} {xs : List Int} (h : Kd.R (Kd.int .u8) 5 W base ok (.slice A n c) xs) (hp : 0 < xs.length) :
    ∃ W', Sem.run Try.prog (convert 23 23 (.slice A n c)) W = .ok (.slice A n c) W' ∧ Below base W W' ∧ Kd.C (Kd.int .u8) W' A xs.length xs ∧ xs.length ≤ c := by
  obtain ⟨hn, hnc, hC⟩ := Kd.R_reads' h
  obtain ⟨inner, ho⟩ := Kd.R_own h
  rcases ho.2 with ⟨hv, hx⟩ | ⟨g, cap, cur, hv, hb, hh, rest⟩
  · cases hv
    omega
  · cases hv
    have hsh : W.shape? g = some (5, cur.size) := by
      unfold World.shape?
      rw [hh]
    refine ⟨W.freeze ⟨g, cur.size, none⟩ 1, ?_, ⟨?_, ?_, ?_, ?_, fun j hj => freeze_other (by omega)⟩, ?_, by omega⟩
    · simp [convert, run_underlying Try.underlying23, run_underlying Try.underlying5, markStringish, hsh]
    · unfold World.freeze; rw [if_neg (by decide)]
    · unfold World.freeze; rw [if_neg (by decide)]
    · unfold World.freeze; rw [if_neg (by decide)]
    · unfold World.freeze; rw [if_neg (by decide)]; simp
    · obtain ⟨h1, h2, h3⟩ := Kd.reads_of_C (d := (0 : Int)) hC
      refine Kd.C_of_reads (d := (0 : Int)) (h1 := fun _ => rfl) ⟨h1, h2, fun hq => ?_⟩
      obtain ⟨ad, e, hc⟩ := h3 hq
      refine ⟨ad, e, fun j hj => ?_⟩
      have := hc j hj
      cases e
      rw [add_plain] at this ⊢
      simp only [World.cell?, hh] at this
      simp only [World.cell?, freeze_block (k := cur.size) hh]
      exact this
end Go.Proofs.Ytkbbdbnjplcjdaa
end
