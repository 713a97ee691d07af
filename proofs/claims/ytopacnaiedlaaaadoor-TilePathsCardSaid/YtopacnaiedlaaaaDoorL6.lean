-- JOINED BY A PROGRAM OF THIS PLACE (wip/tools/pack.py) out of: Base Bytes Rot Expand Take Clone
import Derived.Test.YtopacnaiedlaaaaDoorProg
import Derived.Below
import Derived.Deep.Draws
import Derived.Deep.AppendLies
import Derived.Maps.AppendAt
import Derived.OwnWalk
import Derived.Laws.BytesArg
import Derived.Laws.MakeOwn
import Derived.Laws.OwnMore
import Derived.Laws.CopyOwn
import Derived.Deep.OwnRows
import Derived.Tactics
import Derived.Lib.ConvBytes
import Derived.Lib.Hide
import Derived.Laws.Slices
import Derived.WalkKit
import Derived.KernelRfl
import Derived.RowKit3
import Derived.Deep.LoopGhost
import Derived.Deep.QuietTactic
import Derived.BigQuiet
import Derived.WideLaws
import Derived.Deep.DeepCutAuto
import Derived.Deep.CutBlock
import Derived.Deep.DeepMust
import Derived.Deep.RegionHeld3
import Derived.Deep.WholeRow
import Derived.BigRegion
import Derived.StillTailTactics
import Derived.RegionTactic
import Derived.ChangeAlike
import Derived.Laws.Rows
import Derived.Laws.Tables
import Derived.Lib.AppendStr
import Derived.ArgAppend
import Derived.Laws.IdiomCopy
import Derived.OrdersHeld
import Derived.Laws.BitsLemmas
import Derived.Laws.Bits64
import Derived.WalkSpells
import Derived.WalkSmall
import Derived.Outline
import Derived.RowKit
import Derived.IntWalk
import Derived.Test.YtopacnaiedlaaaaDoorL1
import Derived.Test.YtopacnaiedlaaaaDoorL2
import Derived.Test.YtopacnaiedlaaaaDoorL5
section
/-
  The imports of this seat's walks, in one place. No statement.
-/
end
section
/-
  Appends to rows of bytes that the call itself made: the print's laws at this seat's []byte.
-/
namespace Go.Proofs.YtopacnaiedlaaaaDoor
open Go.RowKit Go.Proofs.YtopacnaiedlaaaaDoorW.PrintWords Go.Proofs.YtopacnaiedlaaaaDoorW.PrintLast Go.Proofs.YtopacnaiedlaaaaDoorW.PrintMore
set_option linter.unusedVariables false
set_option linter.unusedSimpArgs false
theorem infoB : (Tryd.prog.info? 5).map (fun i => (i.zero, i.size, i.bytes)) = some (some (.int .u8 0), 1, 1) := by kernel_rfl
/-- a row of bytes of the call's own -/
abbrev Own8 (w : World) (base : Nat) (v : Value) (xs : List Int) : Prop := Kd.R (Kd.int .u8) 5 w base (fun _ => True) v xs
/-- bytes that are read -/
abbrev Rd8 (w : World) (A : Option Addr) (xs : List Int) : Prop := Kd.C (Kd.int .u8) w A xs.length xs
section
variable {ops : Array Oper} {rest : List Oper} {o : Oper} {a : Act} {Q : Exit → Act → World → Prop}
theorem app_row {w0 W : World} (base : Nat) (hgd : o.guard = none) (s x : Operand)
    (ho : o.op = .call { callee := .builtin .append, args := #[s, x], argTypes := #[76, 76] })
    (v : Value) (xs ys : List Int) (A : Option Addr) (m c : Nat) (hs : a.eval s = v) (hx : a.eval x = .slice A m c)
    (HO : Own8 W base v xs) (HR : Kd.C (Kd.int .u8) W A m ys) (HB : Below base w0 W) (hbase : base ≤ W.heap.size) (hl : xs.length + m ≤ 140737488355328)
    (h : ∀ v1 w1, Own8 w1 base v1 (xs ++ ys) → Below base w0 w1 → W.grownBy w1 v.ownBlock → (v1.ownBlock = v.ownBlock ∨ ∃ b, v1.ownBlock = some b ∧ W.heap.size ≤ b) → wpList Tryd.prog ops Q rest (a.put o.dst v1) w1) :
    wpList Tryd.prog ops Q (o :: rest) a W :=
  Kd.R_append_rows (Kd.int .u8) (w0 := w0) base hgd s x 76 5 (.int .u8 0) 1 ho Tryd.underlying76 infoB rfl (by decide) (by omega) v xs ys A m c (fun _ => True) (fun _ => False) hs hx HO HR (fun _ _ h => h) (fun _ h => h.elim) (fun _ _ => trivial) HB hbase (by simpa using hl) h
theorem app_one {w0 W : World} (base : Nat) (hgd : o.guard = none) (s x : Operand)
    (ho : o.op = .call { callee := .builtin .append, args := #[s, x], argTypes := #[76, 76] })
    (v : Value) (xs : List Int) (p : Int) (hs : a.eval s = v) (hx : a.eval x = .slice (some ⟨W.heap.size, 0, none⟩) 1 1)
    (HO : Own8 W base v xs) (HB : Below base w0 W) (hbase : base ≤ W.heap.size) (hl : xs.length + 1 ≤ 140737488355328)
    (h : ∀ v1 w1, Own8 w1 base v1 (xs ++ [p]) → Below base w0 w1 → W.grownBy w1 v.ownBlock → (v1.ownBlock = v.ownBlock ∨ ∃ b, v1.ownBlock = some b ∧ W.heap.size ≤ b) → wpList Tryd.prog ops Q rest (a.put o.dst v1) w1) :
    wpList Tryd.prog ops Q (o :: rest) a (W.alloc (.cells #[.int .u8 p] 5)) :=
  Kd.R_append (Kd.int .u8) (w0 := w0) base hgd s x 76 5 (.int .u8 0) 1 ho Tryd.underlying76 infoB rfl (by decide) (by omega) v xs p [.int .u8 p] (fun _ => True) (fun _ => False) hs hx rfl (fun _ h => h.elim) (fun _ _ => trivial) HO HB hbase (by simpa using hl) h
theorem lit_none {w0 W : World} (base : Nat) (hgd : o.guard = none) {N : Tmp} (hd : o.dst = some N) (ho : o.op = .buildSlice 76 0 #[])
    (HB : Below base w0 W) (hbase : base ≤ W.heap.size)
    (h : ∀ v1 w1, Own8 w1 base v1 [] → Below base w0 w1 → W.grownBy w1 none → wpList Tryd.prog ops Q rest (a.put o.dst v1) w1) :
    wpList Tryd.prog ops Q (o :: rest) a W := by
  refine Kd.R_lit (Kd.int .u8) (w0 := w0) base 5 hgd hd (xs := ([] : List Int)) (inner := []) (ok := fun _ => True) (okp := fun _ => True) ?_ (Reps.none _ _) (fun _ hk => hk) trivial HB hbase (by simp) fun v1 w1 ho hb hg _ => h v1 w1 ho hb hg
  obtain ⟨dst, op, ty, pos, after, guard⟩ := o
  subst ho
  go_simp
end
/-- the cells of a literal that was laid last -/
theorem rd_new (W : World) (xs : List Int) (hx : xs.length ≤ 9223372036854775807) : Kd.C (Kd.int .u8) (W.alloc (.cells (xs.map (Value.int .u8)).toArray 5)) (some ⟨W.heap.size, 0, none⟩) xs.length xs := by
  refine Kd.C_of_reads (d := (0 : Int)) (h1 := fun _ => rfl) ⟨rfl, hx, fun _ => ⟨_, rfl, fun j hj => ?_⟩⟩
  rw [add_plain, World.cell?_alloc_new]
  simp [hj]
theorem bytesOf_range (s : ByteArray) : ∀ x ∈ bytesOf s, 0 ≤ x ∧ x < 256 := by
  intro x hx
  obtain ⟨b, _, rfl⟩ := List.mem_map.1 hx
  have := b.toNat_lt
  omega
end Go.Proofs.YtopacnaiedlaaaaDoor
end
section
/-
  The turning of words (math/bits.RotateLeft32, sha.turned): what a call answers.
-/
namespace Go.Proofs.YtopacnaiedlaaaaDoor
open Go.RowKit Go.Proofs.YtopacnaiedlaaaaDoorW.PrintWords Go.Proofs.YtopacnaiedlaaaaDoorW.PrintLast Go.Proofs.YtopacnaiedlaaaaDoorW.PrintMore
set_option linter.unusedVariables false
set_option linter.unusedSimpArgs false
theorem rotl_calls (x k : Int) (n m : Nat) (hn : n + m = 32) (hk : Go.bits .and .u64 (IntKind.u64.wrap k) 31 = (m : Int)) (w : World) :
    Calls Tryd.prog 80 #[.int .u32 x, .int .i64 k] w fun e w' => e = .returned (.int .u32 (Sha.rot x n)) ∧ w = w' := by
  have h1 : (0 : Int) ≤ (m : Int) := by omega
  have h2 : (m : Int) ≤ 32 := by omega
  have h3 : IntKind.u64.wrap (32 - (m : Int)) = (n : Int) := by rw [show (32 - (m : Int)) = (n : Int) by omega, IntKind.wrap_u64]; omega
  go_enter Tryd.func80, Tryd.ntmps80
  go_wp2
  go_ret
  obtain rfl : m = 32 - n := by omega
  exact ⟨rfl, rfl⟩
theorem big1_calls (x : Int) (w : World) :
    Calls Tryd.prog 73 #[.int .u32 x, .int .i64 6, .int .i64 11, .int .i64 25] w fun e w' => e = .returned (.int .u32 (Sha.big1 x)) ∧ w = w' := by
  go_enter Tryd.func73, Tryd.ntmps73
  go_wp2_with fail
  refine (rotl_calls x (-6) 6 26 (by decide) (by decide) _).mono ?_
  rintro e w1 ⟨rfl, rfl⟩
  go_wp2_with fail
  refine (rotl_calls x (-11) 11 21 (by decide) (by decide) _).mono ?_
  rintro e w1 ⟨rfl, rfl⟩
  go_wp2_with fail
  refine (rotl_calls x (-25) 25 7 (by decide) (by decide) _).mono ?_
  rintro e w1 ⟨rfl, rfl⟩
  go_wp2_with fail
  go_ret
  exact ⟨rfl, rfl⟩
theorem big0_calls (x : Int) (w : World) :
    Calls Tryd.prog 73 #[.int .u32 x, .int .i64 2, .int .i64 13, .int .i64 22] w fun e w' => e = .returned (.int .u32 (Sha.big0 x)) ∧ w = w' := by
  go_enter Tryd.func73, Tryd.ntmps73
  go_wp2_with fail
  refine (rotl_calls x (-2) 2 30 (by decide) (by decide) _).mono ?_
  rintro e w1 ⟨rfl, rfl⟩
  go_wp2_with fail
  refine (rotl_calls x (-13) 13 19 (by decide) (by decide) _).mono ?_
  rintro e w1 ⟨rfl, rfl⟩
  go_wp2_with fail
  refine (rotl_calls x (-22) 22 10 (by decide) (by decide) _).mono ?_
  rintro e w1 ⟨rfl, rfl⟩
  go_wp2_with fail
  go_ret
  exact ⟨rfl, rfl⟩
end Go.Proofs.YtopacnaiedlaaaaDoor
end
section
/-
  The table K and the words of a block: what sha.table and sha.expand answer.
-/
namespace Go.Proofs.YtopacnaiedlaaaaDoor
open Go.RowKit Go.Proofs.YtopacnaiedlaaaaDoorW.PrintWords Go.Proofs.YtopacnaiedlaaaaDoorW.PrintLast Go.Proofs.YtopacnaiedlaaaaDoorW.PrintMore
set_option linter.unusedVariables false
set_option linter.unusedSimpArgs false
/-- words as values -/
def u32s (l : List Int) : Array Value := (l.map (Value.int .u32)).toArray
theorem u32s_size (l : List Int) : (u32s l).size = l.length := by simp [u32s]
theorem u32s_one (l : List Int) : (u32s l).all (·.oneCell') = true := by
  simp [u32s]
  intro i h
  rfl
theorem wraps_u32 (n : Int) (h₀ : 0 ≤ n) (h₁ : n < 2 ^ 32) : IntKind.u32.wrap n = n := by rw [IntKind.wrap_u32]; omega
theorem u32_or (i : Nat) (x y : Int) (hx₀ : 0 ≤ x) (hx : x % 2 ^ i = 0) (hx₁ : x < 2 ^ 32) (hy₀ : 0 ≤ y) (hy : y < 2 ^ i) (hy₁ : y < 2 ^ 32) : Go.bits .or .u32 x y = x + y :=
  bits_join .u32 32 (by decide) wraps_u32 i x y hx₀ hx hx₁ hy₀ hy hy₁
/-- four bytes, laid together by the bits, are their number -/
theorem word_or (x0 x1 x2 x3 : Int) (h0 : 0 ≤ x0 ∧ x0 < 256) (h1 : 0 ≤ x1 ∧ x1 < 256) (h2 : 0 ≤ x2 ∧ x2 < 256) (h3 : 0 ≤ x3 ∧ x3 < 256) :
    Go.bits .or .u32 (Go.bits .or .u32 (Go.bits .or .u32 (x0 % 4294967296 * 16777216 % 4294967296) (x1 % 4294967296 * 65536 % 4294967296)) (x2 % 4294967296 * 256 % 4294967296)) (x3 % 4294967296) = x0 * 16777216 + x1 * 65536 + x2 * 256 + x3 := by
  rw [show x0 % 4294967296 * 16777216 % 4294967296 = x0 * 16777216 by omega, show x1 % 4294967296 * 65536 % 4294967296 = x1 * 65536 by omega, show x2 % 4294967296 * 256 % 4294967296 = x2 * 256 by omega, show x3 % 4294967296 = x3 by omega]
  rw [u32_or 24 (x0 * 16777216) (x1 * 65536) (by omega) (by omega) (by omega) (by omega) (by omega) (by omega)]
  rw [u32_or 16 _ (x2 * 256) (by omega) (by omega) (by omega) (by omega) (by omega) (by omega)]
  rw [u32_or 8 _ x3 (by omega) (by omega) (by omega) (by omega) (by omega) (by omega)]
theorem u32s_zero (m : Nat) : u32s (List.replicate m 0) = Array.replicate m (.int .u32 0) := by rw [u32s, List.map_replicate, List.toArray_replicate]
theorem u32s_set (p : List Int) (k m : Nat) (v : Int) (hp : p.length = k) (hm : 0 < m) :
    (u32s (p ++ List.replicate m 0)).setIfInBounds k (.int .u32 v) = u32s (p ++ [v] ++ List.replicate (m - 1) 0) := by
  obtain ⟨m, rfl⟩ : ∃ n, m = n + 1 := ⟨m - 1, by omega⟩
  subst hp
  simp [u32s, List.replicate_succ]
theorem u32s_at (p : List Int) (k : Nat) (h : k < p.length) : (u32s p)[k]? = some (.int .u32 (p.getD k 0)) := by
  simp [u32s, h]
theorem infoArr : (Tryd.prog.info? 102).map (·.size) = some 64 := by kernel_rfl
theorem infoSt : (Tryd.prog.info? 92).map (·.size) = some 8 := by kernel_rfl
theorem zeroArr (w : World) : (zeroValue 102).run Tryd.prog w = .ok (.agg (Array.replicate 64 (.int .u32 0))) w := by kernel_rfl
theorem zeroSt (w : World) : (zeroValue 92).run Tryd.prog w = .ok (.agg (Array.replicate 8 (.int .u32 0))) w := by kernel_rfl
theorem wpList_buildAs {P : Program} {ops : Array Oper} {rest : List Oper} {o : Oper} {a : Act} {w : World} {Q : Exit → Act → World → Prop} (hg : o.guard = none) (t : TypeId) (parts : Array (Nat × Operand)) (cells : Array Value) (ho : o.op = .build t parts)
    (hf : P.built t (parts.map fun (i, x) => (i, a.eval x)).toList = some cells)
    (h : wpList P ops Q rest (a.put o.dst (.agg cells)) w) : wpList P ops Q (o :: rest) a w :=
  wpList_build hg t parts ho (by rw [hf]; rfl) (by rw [hf]; exact h)
set_option maxRecDepth 100000 in
theorem table_calls (w : World) :
    Calls Tryd.prog 71 #[] w fun e w' => e = .returned (.agg (u32s Sha.K)) ∧ Below w.heap.size w w' := by
  have hv := zeroArr
  go_enter Tryd.func71, Tryd.ntmps71
  go_wp2_with (first | (refine wpList_buildAs rfl 102 _ (u32s Sha.K) rfl (by kernel_rfl) ?_) | (refine wpList_store_row rfl 102 (.tmp 0) (.tmp 1) rfl w.heap.size (u32s Sha.K) rfl rfl 102 _ (heap_alloc_last w _) infoArr (by rw [u32s_size]; rfl) (u32s_one _) ?_; rw [World.setRow_alloc_new]))
  refine bodyPost_ret (v := .agg (u32s Sha.K)) (results_cell_row rfl _ _ w.heap.size 102 _ (0, 0) _ rfl (heap_alloc_last w _) Tryd.underlying102 rfl infoArr) rfl ⟨rfl, (Below.refl _ _).alloc (Nat.le_refl _) _⟩
theorem addr_add_succ (ad : Addr) (n m : Nat) : ad.add (n + (m + 1)) = ⟨ad.block, ad.off + (n + (m + 1)), none⟩ := by
  simp [Addr.add]
/-- a list of bytes that is read, cell by cell -/
theorem bytes_at {w : World} {A : Option Addr} {l : List Int} (h : Kd.C (Kd.int .u8) w A l.length l) (hl : 0 < l.length) : ∃ ad : Addr, A = some ad ∧ ∀ i, i < l.length → w.cell? (ad.add i) = some (.int .u8 (l.getD i 0)) := by
  obtain ⟨ad, _, e, _⟩ := Kd.C_get h 0 0 (by omega) (by omega)
  refine ⟨ad, e, fun i hi => ?_⟩
  obtain ⟨ad', cs, e', _, hk, hc⟩ := Kd.C_get h 0 (i : Int) (by omega) (by omega)
  rw [e] at e'
  obtain rfl := Option.some.inj e'
  have := hc 0 (.int .u8 (l.getD (i : Int).toNat 0)) (by rw [show cs = _ from hk]; rfl)
  simpa [Kd.int, Kd.scalar] using this
set_option maxHeartbeats 2000000 in
set_option maxRecDepth 100000 in
theorem expand_calls (A : Option Addr) (c : Nat) (l : List Int) (w : World) (hr : Kd.C (Kd.int .u8) w A l.length l) (hc : l.length ≤ c) (hl : l.length = 64) (hby : ∀ x ∈ l, 0 ≤ x ∧ x < 256) :
    Calls Tryd.prog 72 #[.slice A l.length c] w fun e w' => e = .returned (.agg (u32s (Sha.words l))) ∧ Below w.heap.size w w' := by
  obtain ⟨ad, rfl, hcell⟩ := bytes_at hr (by omega)
  have hv := zeroArr
  have HC := Lib.hid hcell
  have HL := Lib.hid hl
  have HBY := Lib.hid hby
  have hlen : 63 < l.length := by omega
  have hlen2 : l.length ≤ 64 := by omega
  clear hr hcell hl hby
  go_enter Tryd.func72, Tryd.ntmps72
  go_wp2
  clear hv
  go_loopw [10] (fun i wr => ∃ k : Nat, k ≤ 16 ∧ i = .int .i64 k ∧ Below w.heap.size w wr ∧ wr.heap.size = w.heap.size + 2 ∧ wr.heap[w.heap.size]? = some (.cells (Array.replicate 64 (.int .u32 0)) 102 (0, 0)) ∧ wr.heap[w.heap.size + 1]? = some (.cells (u32s (Sha.first k l ++ List.replicate (64 - k) 0)) 102 (0, 0))) (fun i _ => 16 - (intOf i).toNat)
  case atStart => exact ⟨0, by omega, by go_num, ((Below.refl _ w).alloc (Nat.le_refl _) _).alloc (by simp) _, by simp, heap_alloc2_old w _ _, (heap_alloc2_new w _ _).trans (by rw [show Sha.first 0 l ++ List.replicate (64 - 0) 0 = List.replicate 64 (0 : Int) from rfl, u32s_zero])⟩
  case round =>
    obtain ⟨k, hk, rfl, hB, hsz, h0, h1⟩ := hrel
    by_cases hlt : k < 16
    · have hlw : ∀ j, j < 64 → wr.cell? (ad.add j) = some (.int .u8 (l.getD j 0)) := fun j hj => by
        have hh := HC.out j (by omega)
        exact (hB.cell (World.block_lt_of_cell? w _ hh)).trans hh
      have g0 := hlw (4 * k) (by omega)
      have g1 : wr.cell? ⟨ad.block, ad.off + (4 * k + 1), none⟩ = _ := (congrArg wr.cell? (addr_add_succ ad (4 * k) 0)).symm.trans (hlw (4 * k + 1) (by omega))
      have g2 : wr.cell? ⟨ad.block, ad.off + (4 * k + 2), none⟩ = _ := (congrArg wr.cell? (addr_add_succ ad (4 * k) 1)).symm.trans (hlw (4 * k + 2) (by omega))
      have g3 : wr.cell? ⟨ad.block, ad.off + (4 * k + 3), none⟩ = _ := (congrArg wr.cell? (addr_add_succ ad (4 * k) 2)).symm.trans (hlw (4 * k + 3) (by omega))
      obtain ⟨x0, e0⟩ : ∃ x, x = l.getD (4 * k) 0 := ⟨_, rfl⟩
      obtain ⟨x1, e1⟩ : ∃ x, x = l.getD (4 * k + 1) 0 := ⟨_, rfl⟩
      obtain ⟨x2, e2⟩ : ∃ x, x = l.getD (4 * k + 2) 0 := ⟨_, rfl⟩
      obtain ⟨x3, e3⟩ : ∃ x, x = l.getD (4 * k + 3) 0 := ⟨_, rfl⟩
      rw [← e0] at g0
      rw [← e1] at g1
      rw [← e2] at g2
      rw [← e3] at g3
      have gw : wr.cell? ⟨w.heap.size + 1, k, none⟩ = some (.int .u32 0) := by
        rw [cell_of_row wr _ k _ _ _ h1, u32s_at _ _ (by simp [Sha.first_length]; omega)]
        rw [List.getD_eq_getElem?_getD, List.getElem?_append_right (by rw [Sha.first_length]; exact Nat.le_refl _)]
        simp [Sha.first_length, show 0 < 64 - k by omega]
      have gf : wr.frozen? ⟨w.heap.size + 1, k, none⟩ = false := frozen_of_row wr _ k _ _ h1
      have E0 := Lib.hid e0
      have E1 := Lib.hid e1
      have E2 := Lib.hid e2
      have E3 := Lib.hid e3
      have hB' := Lib.hid hB
      have hsz' := Lib.hid hsz
      have h0' := Lib.hid h0
      have h1' := Lib.hid h1
      clear hB hsz h0 h1 e0 e1 e2 e3 hlw
      go_wp2
      have n0 : IntKind.i64.wrap (4 * (k : Int)) = 4 * (k : Int) := IntWalk.i64_in _ (by omega)
      have n1 : IntKind.i64.wrap (4 * (k : Int) + 1) = 4 * (k : Int) + 1 := IntWalk.i64_in _ (by omega)
      have n2 : IntKind.i64.wrap (4 * (k : Int) + 2) = 4 * (k : Int) + 2 := IntWalk.i64_in _ (by omega)
      have n3 : IntKind.i64.wrap (4 * (k : Int) + 3) = 4 * (k : Int) + 3 := IntWalk.i64_in _ (by omega)
      have p0 : (0 : Int) ≤ 4 * (k : Int) := by omega
      have p1 : (0 : Int) ≤ 4 * (k : Int) + 1 := by omega
      have p2 : (0 : Int) ≤ 4 * (k : Int) + 2 := by omega
      have p3 : (0 : Int) ≤ 4 * (k : Int) + 3 := by omega
      have q0 : 4 * (k : Int) < (l.length : Int) := by omega
      have q1 : 4 * (k : Int) + 1 < (l.length : Int) := by omega
      have q2 : 4 * (k : Int) + 2 < (l.length : Int) := by omega
      have q3 : 4 * (k : Int) + 3 < (l.length : Int) := by omega
      have m0 : (4 * (k : Int)).toNat = 4 * k := by omega
      have m1 : (4 * (k : Int) + 1).toNat = 4 * k + 1 := by omega
      have m2 : (4 * (k : Int) + 2).toNat = 4 * k + 2 := by omega
      have m3 : (4 * (k : Int) + 3).toNat = 4 * k + 3 := by omega
      have r0 : (0 : Int) ≤ (k : Int) := by omega
      have r1 : (k : Int) < 64 := by omega
      have r2 : k < 64 := by omega
      go_still_tail 35, (by kernel_rfl)
      clear n0 n1 n2 n3 p0 p1 p2 p3 q0 q1 q2 q3 m0 m1 m2 m3
      change wpList _ _ _ _ _ wr.drew
      go_wp2
      go_roundw
      case rel =>
        have hm : ∀ i, i < 64 → 0 ≤ l.getD i 0 ∧ l.getD i 0 < 256 := fun i hi => by
          have := HL.out
          rw [List.getD_eq_getElem?_getD, List.getElem?_eq_getElem (by omega)]
          exact HBY.out _ (List.getElem_mem _)
        have b0 := hm (4 * k) (by omega)
        have b1 := hm (4 * k + 1) (by omega)
        have b2 := hm (4 * k + 2) (by omega)
        have b3 := hm (4 * k + 3) (by omega)
        rw [← E0.out] at b0
        rw [← E1.out] at b1
        rw [← E2.out] at b2
        rw [← E3.out] at b3
        rw [word_or x0 x1 x2 x3 b0 b1 b2 b3]
        have hw : x0 * 16777216 + x1 * 65536 + x2 * 256 + x3 = Sha.word l k := by rw [E0.out, E1.out, E2.out, E3.out]; rfl
        rw [hw]
        refine ⟨k + 1, by omega, by go_num, ?_, ?_, ?_, ?_⟩
        · exact (hB'.out.setCell (p := ⟨w.heap.size + 1, k, none⟩) (by simp) _).drew
        · simpa using hsz'.out
        · rw [heap_drew, heap_setCell_other _ _ _ _ (by simp)]; exact h0'.out
        · rw [heap_drew, heap_setCell_same _ _ _ _ _ _ h1'.out, u32s_set _ k (64 - k) _ (Sha.first_length _ _) (by omega)]
          rfl
      case measure => simp [intOf]; omega
    · obtain rfl : k = 16 := by omega
      have hB' := Lib.hid hB
      have hsz' := Lib.hid hsz
      have h0' := Lib.hid h0
      have h1' := Lib.hid h1
      clear hB hsz h0 h1 hlt hk
      rw [show ((16 : Nat) : Int) = 16 from rfl]
      go_wp2
      go_loopw [5] (fun i wx => ∃ (k : Nat) (p : List Int), 16 ≤ k ∧ k ≤ 64 ∧ i = .int .i64 k ∧ Below w.heap.size w wx ∧ wx.heap.size = w.heap.size + 2 ∧ p.length = k ∧ Sha.ext (64 - k) p = Sha.words l ∧ wx.heap[w.heap.size]? = some (.cells (Array.replicate 64 (.int .u32 0)) 102 (0, 0)) ∧ wx.heap[w.heap.size + 1]? = some (.cells (u32s (p ++ List.replicate (64 - k) 0)) 102 (0, 0))) (fun i _ => 64 - (intOf i).toNat)
      case atStart => exact ⟨16, Sha.first 16 l, by omega, by omega, by go_num, hB'.out, hsz'.out, Sha.first_length _ _, rfl, h0'.out, h1'.out⟩
      case round =>
        obtain ⟨k, p, hk1, hk2, rfl, hB, hsz, hp, hw, h0, h1⟩ := hrel
        obtain ⟨wx, rfl⟩ : ∃ wx, wx = wr := ⟨_, rfl⟩
        by_cases hlt : k < 64
        · have hat : ∀ j, j < k → wx.cell? ⟨w.heap.size + 1, j, none⟩ = some (.int .u32 (p.getD j 0)) := fun j hj => by
            rw [cell_of_row wx _ j _ _ _ h1, u32s_at _ _ (by simp; omega)]
            rw [List.getD_eq_getElem?_getD, List.getElem?_append_left (by omega), ← List.getD_eq_getElem?_getD]
          have g0 := hat (k - 15) (by omega)
          have g1 := hat (k - 2) (by omega)
          have g2 := hat (k - 16) (by omega)
          have g3 := hat (k - 7) (by omega)
          obtain ⟨x, ex⟩ : ∃ x, x = p.getD (k - 15) 0 := ⟨_, rfl⟩
          obtain ⟨y, ey⟩ : ∃ x, x = p.getD (k - 2) 0 := ⟨_, rfl⟩
          obtain ⟨a, ea⟩ : ∃ x, x = p.getD (k - 16) 0 := ⟨_, rfl⟩
          obtain ⟨b, eb⟩ : ∃ x, x = p.getD (k - 7) 0 := ⟨_, rfl⟩
          rw [← ex] at g0
          rw [← ey] at g1
          rw [← ea] at g2
          rw [← eb] at g3
          have gw : wx.cell? ⟨w.heap.size + 1, k, none⟩ = some (.int .u32 0) := by
            rw [cell_of_row wx _ k _ _ _ h1, u32s_at _ _ (by simp; omega)]
            rw [List.getD_eq_getElem?_getD, List.getElem?_append_right (by omega)]
            simp [hp, show 0 < 64 - k by omega]
          have gf : wx.frozen? ⟨w.heap.size + 1, k, none⟩ = false := frozen_of_row wx _ k _ _ h1
          have EX := Lib.hid ex
          have EY := Lib.hid ey
          have EA := Lib.hid ea
          have EB := Lib.hid eb
          have hB'' := Lib.hid hB
          have hsz'' := Lib.hid hsz
          have h0'' := Lib.hid h0
          have h1'' := Lib.hid h1
          have hp'' := Lib.hid hp
          have hw'' := Lib.hid hw
          clear hB hsz h0 h1 ex ey ea eb hp hw hat hB' hsz' h0' h1'
          go_wp2
          have n0 : IntKind.i64.wrap ((k : Int) - 15) = (k : Int) - 15 := IntWalk.i64_in _ (by omega)
          have n1 : IntKind.i64.wrap ((k : Int) - 2) = (k : Int) - 2 := IntWalk.i64_in _ (by omega)
          have p0 : (0 : Int) ≤ (k : Int) - 15 := by omega
          have p1 : (0 : Int) ≤ (k : Int) - 2 := by omega
          have q0 : (k : Int) - 15 < 64 := by omega
          have q1 : (k : Int) - 2 < 64 := by omega
          have m0 : ((k : Int) - 15).toNat = k - 15 := by omega
          have m1 : ((k : Int) - 2).toNat = k - 2 := by omega
          go_quiet (fail)
          clear n0 n1 p0 p1 q0 q1 m0 m1
          go_wp2_with fail
          refine (rotl_calls x (-7) 7 25 (by decide) (by decide) _).mono ?_
          rintro e w1 ⟨rfl, rfl⟩
          go_wp2_with fail
          refine (rotl_calls x (-18) 18 14 (by decide) (by decide) _).mono ?_
          rintro e w1 ⟨rfl, rfl⟩
          go_wp2_with fail
          refine (rotl_calls y (-17) 17 15 (by decide) (by decide) _).mono ?_
          rintro e w1 ⟨rfl, rfl⟩
          go_wp2_with fail
          refine (rotl_calls y (-19) 19 13 (by decide) (by decide) _).mono ?_
          rintro e w1 ⟨rfl, rfl⟩
          go_wp2_with fail
          have g2 : (wx.drewN nq).cell? ⟨w.heap.size + 1, k - 16, none⟩ = some (.int .u32 a) := g2
          have g3 : (wx.drewN nq).cell? ⟨w.heap.size + 1, k - 7, none⟩ = some (.int .u32 b) := g3
          have gw : (wx.drewN nq).cell? ⟨w.heap.size + 1, k, none⟩ = some (.int .u32 0) := gw
          have gf : (wx.drewN nq).frozen? ⟨w.heap.size + 1, k, none⟩ = false := gf
          have hB3 := Lib.hid (pw_below_drewN hB''.out nq)
          have hsz3 : Hid ((wx.drewN nq).heap.size = w.heap.size + 2) := Lib.hid hsz''.out
          have h03 : Hid ((wx.drewN nq).heap[w.heap.size]? = some (.cells (Array.replicate 64 (.int .u32 0)) 102 (0, 0))) := Lib.hid h0''.out
          have h13 : Hid ((wx.drewN nq).heap[w.heap.size + 1]? = some (.cells (u32s (p ++ List.replicate (64 - k) 0)) 102 (0, 0))) := Lib.hid h1''.out
          clear hB'' hsz'' h0'' h1''
          generalize wx.drewN nq = wy at *
          have n2 : IntKind.i64.wrap ((k : Int) - 16) = (k : Int) - 16 := IntWalk.i64_in _ (by omega)
          have n3 : IntKind.i64.wrap ((k : Int) - 7) = (k : Int) - 7 := IntWalk.i64_in _ (by omega)
          have p2 : (0 : Int) ≤ (k : Int) - 16 := by omega
          have p3 : (0 : Int) ≤ (k : Int) - 7 := by omega
          have q2 : (k : Int) - 16 < 64 := by omega
          have q3 : (k : Int) - 7 < 64 := by omega
          have m2 : ((k : Int) - 16).toNat = k - 16 := by omega
          have m3 : ((k : Int) - 7).toNat = k - 7 := by omega
          have r0 : (0 : Int) ≤ (k : Int) := by omega
          have r1 : (k : Int) < 64 := by omega
          have s2 : (16 : Int) ≤ (k : Int) := by omega
          have s3 : (7 : Int) ≤ (k : Int) := by omega
          go_still_tail 15, (by kernel_rfl)
          clear n2 n3 p2 p3 q2 q3 m2 m3 r0 r1 s2 s3
          change wpList _ _ _ _ _ (World.drew _)
          go_wp2
          go_roundw
          case rel =>
            have hpl := hp''.out
            have hwl := hw''.out
            have hval : (a + Go.bits .xor .u32 (Go.bits .xor .u32 (Sha.rot x 7) (Sha.rot x 18)) (x / 8) + b + Go.bits .xor .u32 (Go.bits .xor .u32 (Sha.rot y 17) (Sha.rot y 19)) (y / 1024)) % 4294967296 = Sha.next p := by
              unfold Sha.next
              rw [hpl, ← EX.out, ← EY.out, ← EA.out, ← EB.out]
              show (a + Sha.small0 x + b + Sha.small1 y) % 4294967296 = (a + b + Sha.small0 x + Sha.small1 y) % 4294967296
              omega
            rw [hval]
            refine ⟨k + 1, p ++ [Sha.next p], by omega, by omega, by go_num, ?_, ?_, ?_, ?_, ?_, ?_⟩
            · exact (hB3.out.setCell (p := ⟨w.heap.size + 1, k, none⟩) (by simp) _).drew
            · simpa using hsz3.out
            · simp [hpl]
            · rw [← hwl, show 64 - k = (64 - (k + 1)) + 1 by omega]; rfl
            · rw [heap_drew, heap_setCell_other _ _ _ _ (by simp)]; exact h03.out
            · rw [heap_drew, heap_setCell_same _ _ _ _ _ _ h13.out, u32s_set _ k (64 - k) _ hpl (by omega)]
              rfl
          case measure => simp [intOf]; omega
        · obtain rfl : k = 64 := by omega
          rw [show 64 - 64 = 0 by rfl] at hw h1
          simp only [List.replicate_zero, List.append_nil] at h1
          have hpw : p = Sha.words l := hw
          rw [hpw] at h1
          clear hw hp hlt hk1 hk2
          have h0' := Lib.hid h0
          have h1' := Lib.hid h1
          have hB' := Lib.hid hB
          clear h0 h1 hB
          have hz := Lib.hid hsz
          clear hsz
          go_wp2_with (first | (refine wpList_load_row rfl 102 (.tmp 3) rfl (w.heap.size + 1) rfl 102 _ (0, 0) _ h1'.out Tryd.underlying102 rfl (by rw [u32s_size, Sha.words_length]; exact infoArr) ?_) | (refine wpList_store_row rfl 102 (.tmp 2) (.tmp 92) rfl w.heap.size (u32s (Sha.words l)) rfl rfl 102 _ h0'.out (by rw [u32s_size, Sha.words_length]; exact infoArr) (by rw [u32s_size, Sha.words_length]; simp) (u32s_one _) ?_))
          refine bodyPost_ret (v := .agg (u32s (Sha.words l))) (results_cell_row rfl _ _ w.heap.size 102 _ (0, 0) _ rfl (setRow_heap _ _ _ _ _ _ h0'.out) Tryd.underlying102 rfl (by rw [u32s_size, Sha.words_length]; exact infoArr)) rfl ⟨rfl, below_setRow hB'.out (Nat.le_refl _) _⟩
end Go.Proofs.YtopacnaiedlaaaaDoor
end
section
/-
  One block taken: what (*sha.state).take does to the state.
-/
namespace Go.Proofs.YtopacnaiedlaaaaDoor
open Go.RowKit Go.Proofs.YtopacnaiedlaaaaDoorW.PrintWords Go.Proofs.YtopacnaiedlaaaaDoorW.PrintLast Go.Proofs.YtopacnaiedlaaaaDoorW.PrintMore
set_option linter.unusedVariables false
set_option linter.unusedSimpArgs false
theorem u32s_eq8 (s : List Int) (h : s.length = 8) : ∃ a b c d e f g i, s = [a, b, c, d, e, f, g, i] := by
  match s, h with
  | [a, b, c, d, e, f, g, i], _ => exact ⟨a, b, c, d, e, f, g, i, rfl⟩
theorem take_world {w w2 X : World} {g : Nat} {Z K W : Array Value} (hX : (((w2.alloc (.cells Z 102)).alloc (.cells Z 102)).setRow w2.heap.size K).setRow (w2.heap.size + 1) W = X) (hg : g < w2.heap.size) (hb : Below w.heap.size w w2) :
    X.heap[w2.heap.size]? = some (.cells K 102 (0, 0)) ∧ X.heap[w2.heap.size + 1]? = some (.cells W 102 (0, 0)) ∧ X.heap[g]? = w2.heap[g]? ∧ Below w.heap.size w X ∧ X.heap.size = w2.heap.size + 2 := by
  subst hX
  refine ⟨?_, ?_, ?_, ?_, by simp⟩
  · rw [setRow_other _ _ _ _ (by omega)]
    exact setRow_heap _ _ _ _ _ _ (heap_alloc2_old w2 _ _)
  · exact setRow_heap _ _ _ _ _ _ ((setRow_other _ _ _ _ (by omega)).trans (heap_alloc2_new w2 _ _))
  · rw [setRow_other _ _ _ _ (by omega), setRow_other _ _ _ _ (by omega), heap_alloc_old _ _ (by simp; omega), heap_alloc_old _ _ hg]
  · have := hb.size
    exact below_setRow (below_setRow ((hb.alloc this _).alloc (by simp; omega) _) this _) (by omega) _
theorem infoU32 : (Tryd.prog.info? 80).map (·.size) = some 1 := by kernel_rfl
/-- what lies in memory while the rounds go on: K, the words, the eight letters, the state -/
structure TakeAt (w : World) (g n m : Nat) (S Wd s : List Int) (wr : World) : Prop where
  below : Below w.heap.size w wr
  size : wr.heap.size = m + 1
  hk : wr.heap[n]? = some (.cells (u32s Sha.K) 102 (0, 0))
  hw : wr.heap[n + 1]? = some (.cells (u32s Wd) 102 (0, 0))
  hl : wr.heap[m]? = some (.cells (u32s s) 92 (0, 0))
  hs : wr.heap[g]? = some (.cells (u32s S) 92 (0, 0))
namespace TakeAt
variable {w wr : World} {g n m : Nat} {S Wd s : List Int}
theorem drewN (h : TakeAt w g n m S Wd s wr) (k : Nat) : TakeAt w g n m S Wd s (wr.drewN k) := ⟨pw_below_drewN h.below k, h.size, h.hk, h.hw, h.hl, h.hs⟩
theorem drew (h : TakeAt w g n m S Wd s wr) : TakeAt w g n m S Wd s wr.drew := ⟨below_drew h.below, h.size, h.hk, h.hw, h.hl, h.hs⟩
theorem at_k (h : TakeAt w g n m S Wd s wr) (j : Nat) (hj : j < 64) : wr.cell? ⟨n, j, none⟩ = some (.int .u32 (Sha.K.getD j 0)) := by
  rw [cell_of_row wr _ j _ _ _ h.hk, u32s_at _ _ hj]
theorem at_w (h : TakeAt w g n m S Wd s wr) (j : Nat) (hj : j < Wd.length) : wr.cell? ⟨n + 1, j, none⟩ = some (.int .u32 (Wd.getD j 0)) := by
  rw [cell_of_row wr _ j _ _ _ h.hw, u32s_at _ _ hj]
theorem at_l (h : TakeAt w g n m S Wd s wr) (j : Nat) (hj : j < s.length) : wr.cell? ⟨m, j, none⟩ = some (.int .u32 (s.getD j 0)) := by
  rw [cell_of_row wr _ j _ _ _ h.hl, u32s_at _ _ hj]
theorem free (h : TakeAt w g n m S Wd s wr) (j : Nat) : wr.frozen? ⟨m, j, none⟩ = false := frozen_of_row wr _ j _ _ h.hl
theorem set (h : TakeAt w g n m S Wd s wr) (j : Nat) (v : Int) (hg : g < m) (hn : n + 1 < m) (hm : w.heap.size ≤ m) : TakeAt w g n m S Wd (s.set j v) (wr.setCell ⟨m, j, none⟩ (.int .u32 v)) := by
  refine ⟨h.below.setCell (p := ⟨m, j, none⟩) hm _, by simpa using h.size, ?_, ?_, ?_, ?_⟩
  · rw [heap_setCell_other _ _ _ _ (by simp; omega)]; exact h.hk
  · rw [heap_setCell_other _ _ _ _ (by simp; omega)]; exact h.hw
  · rw [heap_setCell_same _ _ _ _ _ _ h.hl]
    congr 2
    simp [u32s]
  · rw [heap_setCell_other _ _ _ _ (by simp; omega)]; exact h.hs
theorem row (h : TakeAt w g n m S Wd s wr) (s' : List Int) (hg : g < m) (hn : n + 1 < m) (hm : w.heap.size ≤ m) : TakeAt w g n m S Wd s' (wr.setRow m (u32s s')) := by
  refine ⟨below_setRow h.below hm _, by simpa using h.size, ?_, ?_, setRow_heap _ _ _ _ _ _ h.hl, ?_⟩
  · rw [setRow_other _ _ _ _ (by omega)]; exact h.hk
  · rw [setRow_other _ _ _ _ (by omega)]; exact h.hw
  · rw [setRow_other _ _ _ _ (by omega)]; exact h.hs
end TakeAt
theorem big1_same (x : Int) (w : World) :
    Calls Tryd.prog 73 #[.int .u32 x, .int .i64 6, .int .i64 11, .int .i64 25] w fun e w' => e = .returned (.int .u32 (Sha.big1 x)) ∧ w' = w := (big1_calls x w).mono fun _ _ h => ⟨h.1, h.2.symm⟩
theorem big0_same (x : Int) (w : World) :
    Calls Tryd.prog 73 #[.int .u32 x, .int .i64 2, .int .i64 13, .int .i64 22] w fun e w' => e = .returned (.int .u32 (Sha.big0 x)) ∧ w' = w := (big0_calls x w).mono fun _ _ h => ⟨h.1, h.2.symm⟩
theorem grown_set {w w' : World} {b : Nat} (h : w.grownBy w' (some b)) (j : Nat) (v : Value) : w.grownBy (w'.setCell ⟨b, j, none⟩ v) (some b) :=
  ⟨h.os, h.tape, h.output, by simpa using h.size, fun i hi hne => (heap_setCell_other _ _ _ _ (fun e => hne (by rw [e]))).trans (h.block i hi hne)⟩
theorem grown_drew {w w' : World} {row : Option Nat} (h : w.grownBy w' row) : w.grownBy w'.drew row := ⟨h.os, h.tape, h.output, h.size, h.block⟩
theorem u32s_setIn (p : List Int) (k : Nat) (v : Int) : (u32s p).setIfInBounds k (.int .u32 v) = u32s (p.set k v) := by simp [u32s]
theorem take_set (T S : List Int) (k : Nat) (hT : k < T.length) (hS : k < S.length) : (T.take k ++ S.drop k).set k (T.getD k 0) = T.take (k + 1) ++ S.drop (k + 1) := by
  rw [List.set_append_right _ _ (by simp; omega), List.drop_eq_getElem_cons hS]
  simp only [List.length_take, Nat.min_eq_left (Nat.le_of_lt hT), Nat.sub_self, List.set_cons_zero]
  rw [List.take_succ_eq_append_getElem hT, List.getD_eq_getElem?_getD, List.getElem?_eq_getElem hT, List.append_assoc]
  rfl
theorem grown_below {w w1 : World} (h : Below w.heap.size w w1) (row : Option Nat) : w.grownBy w1 row := grown_of_below h row
set_option maxHeartbeats 4000000 in
set_option maxRecDepth 100000 in
theorem take_calls (g : Nat) (S : List Int) (hS : S.length = 8) (A : Option Addr) (c : Nat) (l : List Int) (w : World) (hst : w.heap[g]? = some (.cells (u32s S) 92 (0, 0)))
    (hr : Kd.C (Kd.int .u8) w A l.length l) (hc : l.length ≤ c) (hl : l.length = 64) (hby : ∀ x ∈ l, 0 ≤ x ∧ x < 256) :
    Calls Tryd.prog 64 #[.pointer (some ⟨g, 0, none⟩), .slice A l.length c] w fun e w' => e = .returned (.tuple #[]) ∧ w'.heap[g]? = some (.cells (u32s (Sha.take S l)) 92 (0, 0)) ∧ w.grownBy w' (some g) := by
  have hg : g < w.heap.size := (Array.getElem?_eq_some_iff.1 hst).1
  have hv := zeroArr
  have hv2 := zeroSt
  have HR := Lib.hid hr
  have HL := Lib.hid hl
  have HBY := Lib.hid hby
  have HST := Lib.hid hst
  have HS := Lib.hid hS
  clear hr hl hby hst hS
  go_enter Tryd.func64, Tryd.ntmps64
  go_wp2_with fail
  refine (table_calls _).mono ?_
  rintro e w1 ⟨rfl, hb1⟩
  have HB1 := Lib.hid hb1
  clear hb1
  go_wp2_with fail
  refine (expand_calls A c l w1 (Kd.C_below HR.out HB1.out) hc HL.out HBY.out).mono ?_
  rintro e w2 ⟨rfl, hb2⟩
  have HB2 := Lib.hid hb2
  clear hb2
  have hg1 : g < w1.heap.size := Nat.lt_of_lt_of_le hg HB1.out.size
  have hg2 : g < w2.heap.size := Nat.lt_of_lt_of_le hg1 HB2.out.size
  have HG := Lib.hid (show w2.heap[g]? = some (.cells (u32s S) 92 (0, 0)) from ((HB2.out.block g hg1).trans (HB1.out.block g hg)).trans HST.out)
  have HB : Hid (Below w.heap.size w w2) := Lib.hid (below_then HB1.out HB1.out.size HB2.out)
  have hsz2 : w.heap.size ≤ w2.heap.size := HB.out.size
  clear HB1 HB2 hg1
  go_wp2_with (first | (refine wpList_store_row rfl 102 (.tmp 4) (.tmp 13) rfl w2.heap.size (u32s Sha.K) rfl rfl 102 _ (heap_alloc2_old w2 _ _) infoArr (by simp [u32s, Sha.K]) (u32s_one _) ?_) | (refine wpList_store_row rfl 102 (.tmp 5) (.tmp 15) rfl (w2.heap.size + 1) (u32s (Sha.words l)) rfl rfl 102 _ ((setRow_other _ _ _ _ (by omega)).trans (heap_alloc2_new w2 _ _)) (by rw [u32s_size, Sha.words_length]; exact infoArr) (by rw [u32s_size, Sha.words_length]; simp) (u32s_one _) ?_; generalize hX : World.setRow _ (w2.heap.size + 1) _ = X; have FX := Lib.hid (take_world hX hg2 HB.out); clear hX) | (refine wpList_load_row rfl 92 (.tmp 17) rfl g rfl 92 (u32s S) (0, 0) _ (FX.out.2.2.1.trans HG.out) Tryd.underlying92 rfl (by rw [u32s_size, HS.out]; exact infoSt) ?_; have hszX := Lib.hid FX.out.2.2.2.2) | (refine wpList_store_row rfl 92 (.tmp 6) (.tmp 18) rfl X.heap.size (u32s S) rfl rfl 92 _ (heap_alloc_last X _) (by rw [u32s_size, HS.out]; exact infoSt) (by rw [u32s_size, HS.out]; simp) (u32s_one _) ?_; rw [World.setRow_alloc_new]))
  have hgm : g < X.heap.size := by have := hszX.out; omega
  have hnm : w2.heap.size + 1 < X.heap.size := by have := hszX.out; omega
  have hwm : w.heap.size ≤ X.heap.size := by have := hszX.out; omega
  have hT0 : Hid (TakeAt w g w2.heap.size X.heap.size S (Sha.words l) S (X.alloc (.cells (u32s S) 92))) := Lib.hid (by
    obtain ⟨f1, f2, f3, f4, f5⟩ := FX.out
    refine ⟨f4.alloc hwm _, by simp, ?_, ?_, heap_alloc_last X _, ?_⟩
    · rw [heap_alloc_old _ _ (by omega)]; exact f1
    · rw [heap_alloc_old _ _ (by omega)]; exact f2
    · rw [heap_alloc_old _ _ hgm, f3]; exact HG.out)
  clear FX hv hv2 HG HB HST HR HBY hg2
  clear hszX
  go_loopw [19] (fun v wr => ∃ (t : Nat) (s : List Int), t ≤ 64 ∧ v = .int .i64 t ∧ s.length = 8 ∧ Sha.rounds (Sha.K.drop t) ((Sha.words l).drop t) s = Sha.rounds Sha.K (Sha.words l) S ∧ TakeAt w g w2.heap.size X.heap.size S (Sha.words l) s wr) (fun v _ => 64 - (intOf v).toNat)
  case atStart => exact ⟨0, S, by omega, by go_num, HS.out, rfl, hT0.out⟩
  case round =>
    obtain ⟨t, s, ht, rfl, hs, hrd, hT⟩ := hrel
    by_cases hlt : t < 64
    · obtain ⟨a, b, c0, d, e, f, g0, h0, rfl⟩ := u32s_eq8 s hs
      have HT := Lib.hid hT
      have HRD := Lib.hid hrd
      clear hT hrd hs
      have l0 := HT.out.at_l 0 (by simp)
      have l4 := HT.out.at_l 4 (by simp)
      simp only [List.getD_cons_zero, List.getD_cons_succ] at l0 l4
      go_wp2
      go_quiet (fail)
      have HT1 := Lib.hid (HT.out.drewN nq)
      clear HT l0 l4
      generalize wr.drewN nq = wa at *
      have l5 := HT1.out.at_l 5 (by simp)
      have l6 := HT1.out.at_l 6 (by simp)
      have l7 := HT1.out.at_l 7 (by simp)
      simp only [List.getD_cons_zero, List.getD_cons_succ] at l5 l6 l7
      have kt := HT1.out.at_k t hlt
      have wt := HT1.out.at_w t (by rw [Sha.words_length]; exact hlt)
      obtain ⟨kk, hkk⟩ : ∃ x, x = Sha.K.getD t 0 := ⟨_, rfl⟩
      obtain ⟨ww, hww⟩ : ∃ x, x = (Sha.words l).getD t 0 := ⟨_, rfl⟩
      rw [← hkk] at kt
      rw [← hww] at wt
      have HKK := Lib.hid hkk
      have HWW := Lib.hid hww
      clear hkk hww
      go_wp2
      have r0 : (0 : Int) ≤ (t : Int) := by omega
      have r1 : (t : Int) < 64 := by omega
      go_quiet ((go_at_call 73; exact Calls.quiet_of_same (big1_same _ _)))
      clear r0 r1
      have HT2 := Lib.hid (HT1.out.drewN nq)
      clear HT1 l5 l6 l7 kt wt
      generalize wa.drewN nq = wb at *
      have l1 := HT2.out.at_l 1 (by simp)
      have l2 := HT2.out.at_l 2 (by simp)
      simp only [List.getD_cons_zero, List.getD_cons_succ] at l1 l2
      go_wp2
      go_quiet ((go_at_call 73; exact Calls.quiet_of_same (big0_same _ _)))
      have HT3 := Lib.hid (HT2.out.drewN nq)
      clear HT2 l1 l2
      generalize wb.drewN nq = wc at *
      go_wp2
      go_still_tail 2, (by kernel_rfl)
      change wpList _ _ _ _ _ wc.drew
      have HT4 := Lib.hid HT3.out.drew
      clear HT3
      generalize wc.drew = wd at *
      refine wpList_copy_own rfl (.tmp 68) (.tmp 69) 99 99 rfl 80 Tryd.underlying99 infoU32 X.heap.size 1 7 7 ⟨X.heap.size, 0, none⟩ 7 8 rfl rfl (u32s [a, b, c0, d, e, f, g0, h0]) 92 HT4.out.hl [.int .u32 a, .int .u32 b, .int .u32 c0, .int .u32 d, .int .u32 e, .int .u32 f, .int .u32 g0] rfl ?hsrc (by simp [u32s]) ?hone ?_
      case hsrc =>
        intro j v hj
        rw [add_plain, cell_of_row wd _ j _ _ _ HT4.out.hl]
        match j, hj with
        | 0, hj => exact hj
        | 1, hj => exact hj
        | 2, hj => exact hj
        | 3, hj => exact hj
        | 4, hj => exact hj
        | 5, hj => exact hj
        | 6, hj => exact hj
        | n + 7, hj => simp at hj
      case hone => intro v hv; simp at hv; rcases hv with rfl | rfl | rfl | rfl | rfl | rfl | rfl <;> rfl
      change wpList _ _ _ _ _ (World.setRow wd X.heap.size (u32s [a, a, b, c0, d, e, f, g0]))
      have HT5 := Lib.hid (HT4.out.row [a, a, b, c0, d, e, f, g0] hgm hnm hwm)
      clear HT4
      generalize World.setRow wd X.heap.size (u32s [a, a, b, c0, d, e, f, g0]) = wz at *
      have l0 := HT5.out.at_l 0 (by simp)
      have l4 := HT5.out.at_l 4 (by simp)
      simp only [List.getD_cons_zero, List.getD_cons_succ] at l0 l4
      have f0 := HT5.out.free 0
      have f4 := HT5.out.free 4
      go_wp2
      go_roundw
      case rel =>
        refine ⟨t + 1, _, by omega, by go_num, ?_, ?_, (HT5.out.set 4 _ hgm hnm hwm).set 0 _ hgm hnm hwm⟩
        · rfl
        · rw [← HRD.out]
          have hK : Sha.K.drop t = kk :: Sha.K.drop (t + 1) := by
            rw [HKK.out, List.drop_eq_getElem_cons (show t < Sha.K.length from hlt), List.getD_eq_getElem?_getD, List.getElem?_eq_getElem (show t < Sha.K.length from hlt)]
            rfl
          have hW : (Sha.words l).drop t = ww :: (Sha.words l).drop (t + 1) := by
            have hh : t < (Sha.words l).length := by rw [Sha.words_length]; exact hlt
            rw [HWW.out, List.drop_eq_getElem_cons hh, List.getD_eq_getElem?_getD, List.getElem?_eq_getElem hh]
            rfl
          rw [hK, hW, show IntKind.u32.max = 4294967295 from rfl]
          simp only [Sha.rounds, Sha.step, List.set_cons_succ, List.set_cons_zero]
          unfold Sha.x1 Sha.y1 Sha.ch Sha.maj Sha.xor Sha.and
          congr 2
          · omega
          · congr 4
            omega
      case measure => simp [intOf]; omega
    · obtain rfl : t = 64 := by omega
      rw [List.drop_eq_nil_of_le (show Sha.K.length ≤ 64 from Nat.le_refl _)] at hrd
      have hsL : s = Sha.rounds Sha.K (Sha.words l) S := hrd
      have HT := Lib.hid hT
      have hgr := Lib.hid (grown_below hT.below (some g))
      have HL8 := Lib.hid hs
      have HRD := Lib.hid hsL
      clear hT hrd hs hsL hlt ht
      rw [show ((64 : Nat) : Int) = 64 from rfl]
      go_wp2
      go_loopw [81] (fun v wx => ∃ k : Nat, k ≤ 8 ∧ v = .int .i64 k ∧ w.grownBy wx (some g) ∧ wx.heap[X.heap.size]? = some (.cells (u32s s) 92 (0, 0)) ∧ wx.heap[g]? = some (.cells (u32s ((Sha.take S l).take k ++ S.drop k)) 92 (0, 0))) (fun v _ => 8 - (intOf v).toNat)
      case atStart => exact ⟨0, by omega, by go_num, hgr.out, HT.out.hl, HT.out.hs⟩
      case round =>
        obtain ⟨k, hk, rfl, hgx, hl1, hs1⟩ := hrel
        obtain ⟨wx, rfl⟩ : ∃ wx, wx = wr := ⟨_, rfl⟩
        have hTL : (Sha.take S l).length = 8 := Sha.take_length _ _ HS.out
        have hSL := HS.out
        have hLL := HL8.out
        by_cases hlt : k < 8
        · have ga : wx.cell? ⟨X.heap.size, k, none⟩ = some (.int .u32 (s.getD k 0)) := by rw [cell_of_row wx _ k _ _ _ hl1, u32s_at _ _ (by omega)]
          have gb : wx.cell? ⟨g, k, none⟩ = some (.int .u32 (S.getD k 0)) := by
            rw [cell_of_row wx _ k _ _ _ hs1, u32s_at _ _ (by simp [hTL, hSL]; omega)]
            rw [List.getD_eq_getElem?_getD, List.getElem?_append_right (by simp [hTL]; omega), List.length_take, hTL, Nat.min_eq_left hk, Nat.sub_self, List.getElem?_drop, Nat.add_zero, ← List.getD_eq_getElem?_getD]
          have gf : wx.frozen? ⟨g, k, none⟩ = false := frozen_of_row wx _ k _ _ hs1
          obtain ⟨x, ex⟩ : ∃ x, x = s.getD k 0 := ⟨_, rfl⟩
          obtain ⟨y, ey⟩ : ∃ x, x = S.getD k 0 := ⟨_, rfl⟩
          rw [← ex] at ga
          rw [← ey] at gb
          have EX := Lib.hid ex
          have EY := Lib.hid ey
          have HTL := Lib.hid hTL
          have hgx' := Lib.hid hgx
          have hl1' := Lib.hid hl1
          have hs1' := Lib.hid hs1
          clear hgx hl1 hs1 hTL hSL hLL ex ey
          go_wp2
          have r0 : (0 : Int) ≤ (k : Int) := by omega
          have r1 : (k : Int) < 8 := by omega
          go_still_tail 11, (by kernel_rfl)
          clear r0 r1
          change wpList _ _ _ _ _ wx.drew
          go_wp2
          go_roundw
          case rel =>
            have hTL := HTL.out
            have hSL := HS.out
            have hv : (y + x) % 4294967296 = (Sha.take S l).getD k 0 := by
              rw [EX.out, EY.out, HRD.out]
              have hRL := Sha.rounds_length Sha.K (Sha.words l) S HS.out
              simp only [Sha.take, List.getD_eq_getElem?_getD, List.getElem?_zipWith]
              rw [List.getElem?_eq_getElem (by omega), List.getElem?_eq_getElem (by omega)]
              rfl
            rw [hv]
            refine ⟨k + 1, by omega, by go_num, grown_drew (grown_set hgx'.out k _), ?_, ?_⟩
            · rw [heap_drew, heap_setCell_other _ _ _ _ (by simp; omega)]; exact hl1'.out
            · rw [heap_drew, heap_setCell_same _ _ _ _ _ _ hs1'.out, u32s_setIn, take_set _ _ _ (by omega) (by omega)]
          case measure => simp [intOf]; omega
        · obtain rfl : k = 8 := by omega
          rw [List.drop_eq_nil_of_le (by omega), List.append_nil, List.take_of_length_le (by omega)] at hs1
          have hgx' := Lib.hid hgx
          have hs1' := Lib.hid hs1
          clear hgx hl1 hs1 hTL hSL hLL
          go_wp2
          go_end0
          exact ⟨rfl, hs1'.out, hgx'.out⟩
end Go.Proofs.YtopacnaiedlaaaaDoor
end
section
/-
  What slices.Clone answers at []byte: a row of its own with the same bytes.
-/
namespace Go.Proofs.YtopacnaiedlaaaaDoor
open Go.RowKit Go.Proofs.YtopacnaiedlaaaaDoorW.PrintWords Go.Proofs.YtopacnaiedlaaaaDoorW.PrintLast Go.Proofs.YtopacnaiedlaaaaDoorW.PrintMore
set_option linter.unusedVariables false
set_option linter.unusedSimpArgs false
theorem clone8_calls (A : Option Addr) (c : Nat) (l : List Int) (w : World) (hr : Rd8 w A l) (hl : l.length ≤ 140737488355328) :
    Calls Tryd.prog 63 #[.slice A l.length c] w fun e w' => ∃ v0_ : Value, e = .returned v0_ ∧ Own8 w' w.heap.size v0_ l ∧ Below w.heap.size w w' := by
  have HR := Lib.hid hr
  have he := fun w n c => Lib.run_eql_slice_nil (P := Tryd.prog) w 76 5 A n c 0 0 Tryd.underlying76
  cases A with
  | none =>
    obtain rfl : l = [] := by
      cases l with
      | nil => rfl
      | cons x l =>
        obtain ⟨ad, _, h, _⟩ := Kd.C_get hr 0 0 (by omega) (by simp)
        cases h
    clear hr
    go_enter Tryd.func63, Tryd.ntmps63
    go_wp2
    go_ret
    exact ⟨_, rfl, Kd.R_nil _ _ _ _ _, Below.refl _ _⟩
  | some ad =>
    clear hr
    go_enter Tryd.func63, Tryd.ntmps63
    go_wp2_with (first | (refine lit_none (w0 := w) (N := 5) w.heap.size rfl rfl rfl (Below.refl _ _) (Nat.le_refl _) ?_; intro v1 w1 ho1 hb1 hg1; have HO := Lib.hid ho1; have HB := Lib.hid hb1; clear ho1 hb1 hg1) | (at_builtin; refine app_row (w0 := w) w.heap.size rfl (.tmp 5) (.tmp 6) rfl v1 [] l (some ad) l.length c rfl rfl HO.out (Kd.C_below HR.out HB.out) HB.out HB.out.size (by simpa using hl) ?_; intro v2 w2 ho2 hb2 hg2 _; have HO2 := Lib.hid ho2; have HB2 := Lib.hid hb2; clear ho2 hb2 hg2))
    go_ret
    exact ⟨_, rfl, HO2.out, HB2.out⟩
end Go.Proofs.YtopacnaiedlaaaaDoor
end
