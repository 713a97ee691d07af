-- JOINED BY A PROGRAM OF THIS PLACE (wip/tools/pack.py) out of: Base Bytes Clone Whole Conv
import Derived.Test.YtkbbdbnjplcjdaaProg
import Derived.Below
import Derived.Deep.Draws
import Derived.Deep.AppendLies
import Derived.Maps.AppendAt
import Derived.OwnWalk
import Derived.Laws.BytesArg
import Derived.Laws.MakeOwn
import Derived.Laws.OwnMore
import Derived.Laws.CopyOwn
import Derived.Deep.OwnRows
import Derived.Tactics
import Derived.Lib.ConvBytes
import Derived.Lib.Hide
import Derived.Laws.Slices
import Derived.WalkKit
import Derived.KernelRfl
import Derived.RowKit3
import Derived.Deep.LoopGhost
import Derived.Deep.QuietTactic
import Derived.BigQuiet
import Derived.WideLaws
import Derived.Deep.DeepCutAuto
import Derived.Deep.CutBlock
import Derived.Deep.DeepMust
import Derived.Deep.RegionHeld3
import Derived.Deep.WholeRow
import Derived.BigRegion
import Derived.StillTailTactics
import Derived.RegionTactic
import Derived.ChangeAlike
import Derived.Laws.Rows
import Derived.Laws.Tables
import Derived.Lib.AppendStr
import Derived.ArgAppend
import Derived.Laws.IdiomCopy
import Derived.OrdersHeld
import Derived.Laws.BitsLemmas
import Derived.Laws.Bits64
import Derived.WalkSpells
import Derived.WalkSmall
import Derived.Outline
import Derived.RowKit
import Derived.IntWalk
import Derived.Test.YtkbbdbnjplcjdaaWMore
import Derived.Test.YtkbbdbnjplcjdaaWLast
import Derived.Test.YtkbbdbnjplcjdaaWGuard
section
/-
  The imports of this seat's walks, in one place. No statement.
-/
end
section
/-
  Appends to rows of bytes that the call itself made: the print's laws at this seat's []byte.
-/
namespace Go.Proofs.Ytkbbdbnjplcjdaa
open Go.RowKit Go.Proofs.YtkbbdbnjplcjdaaW.PrintWords Go.Proofs.YtkbbdbnjplcjdaaW.PrintLast Go.Proofs.YtkbbdbnjplcjdaaW.PrintMore
set_option linter.unusedVariables false
set_option linter.unusedSimpArgs false
theorem infoB : (Try.prog.info? 5).map (fun i => (i.zero, i.size, i.bytes)) = some (some (.int .u8 0), 1, 1) := by kernel_rfl
/-- a row of bytes of the call's own -/
abbrev Own8 (w : World) (base : Nat) (v : Value) (xs : List Int) : Prop := Kd.R (Kd.int .u8) 5 w base (fun _ => True) v xs
/-- bytes that are read -/
abbrev Rd8 (w : World) (A : Option Addr) (xs : List Int) : Prop := Kd.C (Kd.int .u8) w A xs.length xs
section
variable {ops : Array Oper} {rest : List Oper} {o : Oper} {a : Act} {Q : Exit → Act → World → Prop}
theorem app_row {w0 W : World} (base : Nat) (hgd : o.guard = none) (s x : Operand)
    (ho : o.op = .call { callee := .builtin .append, args := #[s, x], argTypes := #[23, 23] })
    (v : Value) (xs ys : List Int) (A : Option Addr) (m c : Nat) (hs : a.eval s = v) (hx : a.eval x = .slice A m c)
    (HO : Own8 W base v xs) (HR : Kd.C (Kd.int .u8) W A m ys) (HB : Below base w0 W) (hbase : base ≤ W.heap.size) (hl : xs.length + m ≤ 140737488355328)
    (h : ∀ v1 w1, Own8 w1 base v1 (xs ++ ys) → Below base w0 w1 → W.grownBy w1 v.ownBlock → (v1.ownBlock = v.ownBlock ∨ ∃ b, v1.ownBlock = some b ∧ W.heap.size ≤ b) → wpList Try.prog ops Q rest (a.put o.dst v1) w1) :
    wpList Try.prog ops Q (o :: rest) a W :=
  Kd.R_append_rows (Kd.int .u8) (w0 := w0) base hgd s x 23 5 (.int .u8 0) 1 ho Try.underlying23 infoB rfl (by decide) (by omega) v xs ys A m c (fun _ => True) (fun _ => False) hs hx HO HR (fun _ _ h => h) (fun _ h => h.elim) (fun _ _ => trivial) HB hbase (by simpa using hl) h
theorem app_one {w0 W : World} (base : Nat) (hgd : o.guard = none) (s x : Operand)
    (ho : o.op = .call { callee := .builtin .append, args := #[s, x], argTypes := #[23, 23] })
    (v : Value) (xs : List Int) (p : Int) (hs : a.eval s = v) (hx : a.eval x = .slice (some ⟨W.heap.size, 0, none⟩) 1 1)
    (HO : Own8 W base v xs) (HB : Below base w0 W) (hbase : base ≤ W.heap.size) (hl : xs.length + 1 ≤ 140737488355328)
    (h : ∀ v1 w1, Own8 w1 base v1 (xs ++ [p]) → Below base w0 w1 → W.grownBy w1 v.ownBlock → (v1.ownBlock = v.ownBlock ∨ ∃ b, v1.ownBlock = some b ∧ W.heap.size ≤ b) → wpList Try.prog ops Q rest (a.put o.dst v1) w1) :
    wpList Try.prog ops Q (o :: rest) a (W.alloc (.cells #[.int .u8 p] 5)) :=
  Kd.R_append (Kd.int .u8) (w0 := w0) base hgd s x 23 5 (.int .u8 0) 1 ho Try.underlying23 infoB rfl (by decide) (by omega) v xs p [.int .u8 p] (fun _ => True) (fun _ => False) hs hx rfl (fun _ h => h.elim) (fun _ _ => trivial) HO HB hbase (by simpa using hl) h
theorem lit_none {w0 W : World} (base : Nat) (hgd : o.guard = none) {N : Tmp} (hd : o.dst = some N) (ho : o.op = .buildSlice 23 0 #[])
    (HB : Below base w0 W) (hbase : base ≤ W.heap.size)
    (h : ∀ v1 w1, Own8 w1 base v1 [] → Below base w0 w1 → W.grownBy w1 none → wpList Try.prog ops Q rest (a.put o.dst v1) w1) :
    wpList Try.prog ops Q (o :: rest) a W := by
  refine Kd.R_lit (Kd.int .u8) (w0 := w0) base 5 hgd hd (xs := ([] : List Int)) (inner := []) (ok := fun _ => True) (okp := fun _ => True) ?_ (Reps.none _ _) (fun _ hk => hk) trivial HB hbase (by simp) fun v1 w1 ho hb hg _ => h v1 w1 ho hb hg
  obtain ⟨dst, op, ty, pos, after, guard⟩ := o
  subst ho
  go_simp
end
/-- the cells of a literal that was laid last -/
theorem rd_new (W : World) (xs : List Int) (hx : xs.length ≤ 9223372036854775807) : Kd.C (Kd.int .u8) (W.alloc (.cells (xs.map (Value.int .u8)).toArray 5)) (some ⟨W.heap.size, 0, none⟩) xs.length xs := by
  refine Kd.C_of_reads (d := (0 : Int)) (h1 := fun _ => rfl) ⟨rfl, hx, fun _ => ⟨_, rfl, fun j hj => ?_⟩⟩
  rw [add_plain, World.cell?_alloc_new]
  simp [hj]
theorem bytesOf_range (s : ByteArray) : ∀ x ∈ bytesOf s, 0 ≤ x ∧ x < 256 := by
  intro x hx
  obtain ⟨b, _, rfl⟩ := List.mem_map.1 hx
  have := b.toNat_lt
  omega
end Go.Proofs.Ytkbbdbnjplcjdaa
end
section
/-
  What slices.Clone answers at []byte: a row of its own with the same bytes.
-/
namespace Go.Proofs.Ytkbbdbnjplcjdaa
open Go.RowKit Go.Proofs.YtkbbdbnjplcjdaaW.PrintWords Go.Proofs.YtkbbdbnjplcjdaaW.PrintLast Go.Proofs.YtkbbdbnjplcjdaaW.PrintMore
set_option linter.unusedVariables false
set_option linter.unusedSimpArgs false
theorem clone8_calls (A : Option Addr) (c : Nat) (l : List Int) (w : World) (hr : Rd8 w A l) (hl : l.length ≤ 140737488355328) :
    Calls Try.prog 50 #[.slice A l.length c] w fun e w' => ∃ v0_ : Value, e = .returned v0_ ∧ Own8 w' w.heap.size v0_ l ∧ Below w.heap.size w w' := by
  have HR := Lib.hid hr
  have he := fun w n c => Lib.run_eql_slice_nil (P := Try.prog) w 23 5 A n c 0 0 Try.underlying23
  cases A with
  | none =>
    obtain rfl : l = [] := by
      cases l with
      | nil => rfl
      | cons x l =>
        obtain ⟨ad, _, h, _⟩ := Kd.C_get hr 0 0 (by omega) (by simp)
        cases h
    clear hr
    go_enter Try.func50, Try.ntmps50
    go_wp2
    go_ret
    exact ⟨_, rfl, Kd.R_nil _ _ _ _ _, Below.refl _ _⟩
  | some ad =>
    clear hr
    go_enter Try.func50, Try.ntmps50
    go_wp2_with (first | (refine lit_none (w0 := w) (N := 5) w.heap.size rfl rfl rfl (Below.refl _ _) (Nat.le_refl _) ?_; intro v1 w1 ho1 hb1 hg1; have HO := Lib.hid ho1; have HB := Lib.hid hb1; clear ho1 hb1 hg1) | (at_builtin; refine app_row (w0 := w) w.heap.size rfl (.tmp 5) (.tmp 6) rfl v1 [] l (some ad) l.length c rfl rfl HO.out (Kd.C_below HR.out HB.out) HB.out HB.out.size (by simpa using hl) ?_; intro v2 w2 ho2 hb2 hg2 _; have HO2 := Lib.hid ho2; have HB2 := Lib.hid hb2; clear ho2 hb2 hg2))
    go_ret
    exact ⟨_, rfl, HO2.out, HB2.out⟩
end Go.Proofs.Ytkbbdbnjplcjdaa
end
section
/-
  hash.whole: have all texts 32 bytes?
-/
namespace Go.Proofs.Ytkbbdbnjplcjdaa
open Go.RowKit Go.Proofs.YtkbbdbnjplcjdaaW.PrintWords Go.Proofs.YtkbbdbnjplcjdaaW.PrintLast Go.Proofs.YtkbbdbnjplcjdaaW.PrintMore
set_option linter.unusedVariables false
set_option linter.unusedSimpArgs false
def wholeB (l : List ByteArray) : Bool := l.all fun s => decide (s.size = 32)
def hash_whole.f (l0 : List ByteArray) : Option Bool := some (wholeB l0)
theorem isHash_calls (s : ByteArray) (w : World) (b : Bool) (hb : ((s.size : Int) == 32) = b) :
    Calls Try.prog 57 #[.string s] w fun e w' => e = .returned (.bool b) ∧ w = w' := by
  go_enter Try.func57, Try.ntmps57
  go_wp2
  go_ret
  exact ⟨rfl, rfl⟩
theorem whole1_calls (s : ByteArray) (w : World) (b : Bool) (hb : ((s.size : Int) == 32) = !b) :
    Calls Try.prog 56 #[.string s] w fun e w' => e = .returned (.bool b) ∧ w = w' := by
  have HB := Lib.hid hb
  clear hb
  go_enter Try.func56, Try.ntmps56
  go_wp2_with fail
  refine (isHash_calls s _ (!b) HB.out).mono ?_
  rintro e w' ⟨rfl, rfl⟩
  go_wp2
  go_ret
  exact ⟨by simp, rfl⟩
def IdxPost (l : List ByteArray) (w : World) (e : Ending) (w' : World) : Prop := ∃ i : Int, e = .returned (.int .i64 i) ∧ (decide (0 ≤ i) = !(wholeB l)) ∧ w = w'
theorem wholeB_of (l : List ByteArray) (h : ∀ j, j < l.length → (rdOf ByteArray.empty l (j : Int)).size = 32) : wholeB l = true := by
  unfold wholeB
  rw [List.all_eq_true]
  intro x hx
  obtain ⟨j, hj, rfl⟩ := List.getElem_of_mem hx
  have := h j hj
  simp only [rdOf, Int.toNat_natCast] at this
  rw [List.getD_eq_getElem?_getD, List.getElem?_eq_getElem hj] at this
  simpa using this
theorem wholeB_not (l : List ByteArray) (j : Nat) (hj : j < l.length) (h : ¬ (rdOf ByteArray.empty l (j : Int)).size = 32) : wholeB l = false := by
  rw [Bool.eq_false_iff]
  intro hw
  unfold wholeB at hw
  rw [List.all_eq_true] at hw
  have := hw l[j] (List.getElem_mem hj)
  apply h
  simp only [rdOf, Int.toNat_natCast]
  rw [List.getD_eq_getElem?_getD, List.getElem?_eq_getElem hj]
  simpa using this
set_option maxHeartbeats 1000000 in
set_option maxRecDepth 100000 in
theorem idx_calls (A0 : Option Addr) (c0 : Nat) (l0 : List ByteArray) (w : World) (hr0 : Kd.C Kd.string w A0 l0.length l0) :
    Calls Try.prog 67 #[.slice A0 l0.length c0, .func (.func 56) #[] #[]] w (IdxPost l0 w) := by
  have HR0 := Lib.hid hr0
  have HL := Lib.hid (Kd.reads_of_C (d := ByteArray.empty) hr0).2.1
  clear hr0
  go_enter Try.func67, Try.ntmps67
  go_wp2
  go_loop [8] (fun i => ∃ k : Nat, k ≤ l0.length ∧ i = .int .i64 k ∧ Hid (∀ j, j < k → (rdOf ByteArray.empty l0 (j : Int)).size = 32)) (fun i => l0.length - (intOf i).toNat)
  case atStart => exact ⟨0, Nat.zero_le _, rfl, Lib.hid (fun j hj => absurd hj (Nat.not_lt_zero _))⟩
  case round =>
    obtain ⟨k, hk, rfl, HP⟩ := hrel
    have hlen := HL.out
    by_cases hlt : k < l0.length
    · have p1 : 0 ≤ (k : Int) := by omega
      have q1 : (k : Int) < l0.length := by omega
      obtain ⟨ad, rfl, hcell⟩ := Kd.at_string HR0.out k p1 q1
      simp only [Int.toNat_natCast] at hcell
      by_cases h32 : (rdOf ByteArray.empty l0 (k : Int)).size = 32
      · have H32 := Lib.hid h32
        clear h32
        go_wp2_with fail
        refine (whole1_calls _ _ false (by rw [H32.out]; rfl)).mono ?_
        rintro e w' ⟨rfl, rfl⟩
        go_wp2
        go_round
        case rel =>
          exact ⟨k + 1, by omega, by go_num, Lib.hid (fun j hj => by
            rcases Nat.lt_or_ge j k with hj2 | hj2
            · exact HP.out j hj2
            · obtain rfl : j = k := by omega
              exact H32.out)⟩
        case measure => simp [intOf]; omega
      · have H32 := Lib.hid h32
        clear h32
        go_wp2_with fail
        refine (whole1_calls _ _ true (by have := H32.out; simp; omega)).mono ?_
        rintro e w' ⟨rfl, rfl⟩
        go_wp2
        go_ret
        exact ⟨(k : Int), rfl, by rw [wholeB_not _ k hlt H32.out]; simp, rfl⟩
    · obtain rfl : k = l0.length := by omega
      go_wp2
      go_ret
      exact ⟨-1, rfl, by rw [wholeB_of _ HP.out]; rfl, rfl⟩
set_option maxRecDepth 100000 in
theorem contains_calls (A0 : Option Addr) (c0 : Nat) (l0 : List ByteArray) (w : World) (hr0 : Kd.C Kd.string w A0 l0.length l0) :
    Calls Try.prog 55 #[.slice A0 l0.length c0, .func (.func 56) #[] #[]] w fun e w' => e = .returned (.bool (!(wholeB l0))) ∧ w = w' := by
  have HR0 := Lib.hid hr0
  clear hr0
  go_enter Try.func55, Try.ntmps55
  go_wp2_with fail
  refine (idx_calls A0 c0 l0 _ HR0.out).mono ?_
  rintro e w' ⟨i, rfl, hi, rfl⟩
  have HI := Lib.hid hi
  clear hi
  go_wp2
  go_ret
  exact ⟨congrArg (fun b => Ending.returned (Value.bool b)) HI.out, rfl⟩
set_option maxRecDepth 100000 in
theorem hash_whole.calls (A0 : Option Addr) (c0 : Nat) (l0 : List ByteArray) (r : Bool) (w : World) (hr0 : Kd.C Kd.string w A0 l0.length l0) (hc0 : l0.length ≤ c0) (h : hash_whole.f l0 = some r) :
    Calls Try.prog 41 #[.slice A0 l0.length c0] w fun e w' => e = .returned (.bool r) ∧ Below w.heap.size w w' := by
  obtain rfl := Option.some.inj h
  clear h
  have HR0 := Lib.hid hr0
  clear hr0
  go_enter Try.func41, Try.ntmps41
  go_wp2_with fail
  refine (contains_calls A0 c0 l0 _ HR0.out).mono ?_
  rintro e w' ⟨rfl, rfl⟩
  go_wp2
  go_ret
  exact ⟨by simp, Below.refl _ _⟩
end Go.Proofs.Ytkbbdbnjplcjdaa
end
section
/-
  A constant's bytes: the row of a literal that a conversion to its own type marks.
-/
namespace Go.Proofs.Ytkbbdbnjplcjdaa
open Go.RowKit Go.Proofs.YtkbbdbnjplcjdaaW.PrintWords Go.Proofs.YtkbbdbnjplcjdaaW.PrintLast Go.Proofs.YtkbbdbnjplcjdaaW.PrintMore
set_option linter.unusedVariables false
set_option linter.unusedSimpArgs false
theorem freeze_block {W : World} {g k : Nat} {C : Array Value} {e : TypeId} (h : W.heap[g]? = some (.cells C e (0, 0))) : (W.freeze ⟨g, k, none⟩ 1).heap[g]? = some (.cells C e (k, k + 1)) := by
  unfold World.freeze
  rw [if_neg (by decide)]
  simp [Array.getElem?_modify, h]
theorem freeze_other {W : World} {g k j : Nat} (hj : j ≠ g) : (W.freeze ⟨g, k, none⟩ 1).heap[j]? = W.heap[j]? := by
  unfold World.freeze
  rw [if_neg (by decide)]
  simp [Array.getElem?_modify, Ne.symm hj]
/-- the conversion of a row of the call's own, that is not empty -/
theorem conv_run {W : World} {base : Nat} {ok : Nat → Prop} {A : Option Addr} {n c : Nat} {xs : List Int} (h : Kd.R (Kd.int .u8) 5 W base ok (.slice A n c) xs) (hp : 0 < xs.length) :
    ∃ W', Sem.run Try.prog (convert 23 23 (.slice A n c)) W = .ok (.slice A n c) W' ∧ Below base W W' ∧ Kd.C (Kd.int .u8) W' A xs.length xs ∧ xs.length ≤ c := by
  obtain ⟨hn, hnc, hC⟩ := Kd.R_reads' h
  obtain ⟨inner, ho⟩ := Kd.R_own h
  rcases ho.2 with ⟨hv, hx⟩ | ⟨g, cap, cur, hv, hb, hh, rest⟩
  · cases hv
    omega
  · cases hv
    have hsh : W.shape? g = some (5, cur.size) := by
      unfold World.shape?
      rw [hh]
    refine ⟨W.freeze ⟨g, cur.size, none⟩ 1, ?_, ⟨?_, ?_, ?_, ?_, fun j hj => freeze_other (by omega)⟩, ?_, by omega⟩
    · simp [convert, run_underlying Try.underlying23, run_underlying Try.underlying5, markStringish, hsh]
    · unfold World.freeze; rw [if_neg (by decide)]
    · unfold World.freeze; rw [if_neg (by decide)]
    · unfold World.freeze; rw [if_neg (by decide)]
    · unfold World.freeze; rw [if_neg (by decide)]; simp
    · obtain ⟨h1, h2, h3⟩ := Kd.reads_of_C (d := (0 : Int)) hC
      refine Kd.C_of_reads (d := (0 : Int)) (h1 := fun _ => rfl) ⟨h1, h2, fun hq => ?_⟩
      obtain ⟨ad, e, hc⟩ := h3 hq
      refine ⟨ad, e, fun j hj => ?_⟩
      have := hc j hj
      cases e
      rw [add_plain] at this ⊢
      simp only [World.cell?, hh] at this
      simp only [World.cell?, freeze_block (k := cur.size) hh]
      exact this
end Go.Proofs.Ytkbbdbnjplcjdaa
end
