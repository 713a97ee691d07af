-- JOINED BY A PROGRAM OF THIS PLACE (wip/tools/pack.py) out of: Back Chunk
import Derived.OneCell
import Derived.Laws.EntriesVeiled
import Derived.OwnWalkIn
import Derived.Test.YtoihdghoopgdfaaX23
import Derived.Test.YtoihdghoopgdfaaX29
section
/-
  slices.Backward at []string and the function that it hands back: what is handed to yield, round by round.
-/
namespace Go.Proofs.Ytoihdghoopgdfaa
open Go.RowKit Go.Proofs.YtoihdghoopgdfaaW.PrintWords Go.Proofs.YtoihdghoopgdfaaW.PrintLast Go.Proofs.YtoihdghoopgdfaaW.PrintMore Go.Proofs.YtoihdghoopgdfaaR
set_option linter.unusedVariables false
set_option linter.unusedSimpArgs false
attribute [local go_sem] Oper.semAt_some
structure BackSt (bs : Nat) (A : Option Addr) (c : Nat) (l : List ByteArray) (W : World) : Prop where
  cs : W.heap[bs]? = some (.cells #[.slice A l.length c] 22 (0, 0))
  rd : Kd.C Kd.string W A l.length l
def backVal (l : List ByteArray) (k : Nat) : ByteArray := l.getD (l.length - 1 - k) ByteArray.empty
def backEnc (l : List ByteArray) (k : Nat) : Array Value := #[.int .i64 ((l.length - 1 - k : Nat) : Int), .string (backVal l k)]
theorem put_cells {W : World} {l b : Nat} {o o' : Obj} {cs : Array Value} {t : TypeId} (hl : W.heap[l]? = some o) (ho : o.isCells = false) (hb : W.heap[b]? = some (.cells cs t (0, 0))) : (W.putObj l o').heap[b]? = some (.cells cs t (0, 0)) := by
  by_cases e : b = l
  · subst e
    rw [hl] at hb
    cases hb
    cases ho
  · exact (World.putObj_heap_other e).trans hb
theorem put_below {n₀ : Nat} {w W : World} {l : Nat} {o o' : Obj} (h : Below n₀ w W) (hn : n₀ ≤ l) (hl : W.heap[l]? = some o) : Below n₀ w (W.putObj l o') :=
  h.trans ((Below.refl n₀ W).grown (grownBy_putObj' W l o') (by have := (Array.getElem?_eq_some_iff.1 hl).1; omega) (fun k e => by cases e; omega))
theorem keeps_below {W W' : World} (hb : Below W.heap.size W W') : KeepsOthers W W' := ⟨hb.size, fun k o hk _ => (hb.block k (Array.getElem?_eq_some_iff.1 hk).1).trans hk⟩
set_option maxRecDepth 100000 in
set_option maxHeartbeats 4000000 in
theorem back1_sim (bs : Nat) (A : Option Addr) (c : Nat) (l : List ByteArray) (hl : l.length ≤ 9223372036854775806) : SeqSimA Try.prog 49 #[.pointer (some ⟨bs, 0, none⟩)] (backEnc l) l.length (fun _ => BackSt bs A c l) (fun _ W => W) := by
  intro l_ J Jx W h0 hst hY
  obtain ⟨n, hn⟩ : ∃ n, n = l.length := ⟨_, rfl⟩
  have HN := Lib.hid hn
  have hw0 : IntKind.i64.wrap ((n : Int) - 1) = (n : Int) - 1 := IntWalk.i64_in _ (by omega)
  have c0 := cell_of_one (hst 0 W h0).cs
  rw [← hn] at c0
  refine callsIn_of_wp Try.func49 rfl trivial ?_ rfl
  simp only [Try.ntmps49, List.size_toArray, List.length_cons, List.length_nil, Nat.reduceAdd, Nat.reduceSub, Array.replicate_succ, Array.replicate_zero, List.push_toArray, List.append_toArray, List.nil_append, List.cons_append]
  rw [← hn]
  clear hn
  gi_wp2
  gi_loopw [3] (fun v wr => ∃ j : Nat, j ≤ n ∧ v = .int .i64 ((j : Int) - 1) ∧ J (n - j) wr) (fun v _ => (intOf v + 1).toNat)
  case atStart => exact ⟨n, by omega, rfl, by rw [Nat.sub_self]; exact h0⟩
  case round =>
    obtain ⟨j, hj, rfl, hJ⟩ := hrel
    have hS := hst _ wr hJ
    cases j with
    | zero =>
      rw [show (((0 : Nat) : Int) - 1) = -1 from rfl]
      gi_wp2
      go_end0
      exact ⟨⟨_, rfl⟩, .inl hJ⟩
    | succ j =>
      rw [show (((j + 1 : Nat) : Int) - 1) = (j : Int) by omega]
      have c1 := cell_of_one hS.cs
      rw [← HN.out] at c1
      obtain ⟨ad, rfl, c2⟩ := Kd.at_string hS.rd (j : Int) (by omega) (by have := HN.out; omega)
      simp only [rdOf, Int.toNat_natCast] at c2
      have hy0 := hY _ wr hJ (by have := HN.out; omega)
      have he : backEnc l (n - (j + 1)) = #[.int .i64 (j : Int), .string (l.getD j ByteArray.empty)] := by
        unfold backEnc backVal
        rw [← HN.out, show n - 1 - (n - (j + 1)) = j by omega]
      rw [he, show n - (j + 1) + 1 = n - j by omega] at hy0
      generalize l.getD j ByteArray.empty = x at *
      obtain ⟨fn, tmps, assign, body, hy, hR⟩ := hy0
      try dsimp only at hy
      have i0 : (0 : Int) ≤ (j : Int) := by omega
      have i1 : (j : Int) < (n : Int) := by omega
      have i2 : j < n := by omega
      have i3 : (j : Int) ≤ 9223372036854775806 := by have := HN.out; omega
      clear hS he
      gi_wp2
      refine hR.mono ?_
      rintro e W' (⟨rfl, hS', hJ'⟩ | ⟨rfl, hJx⟩)
      · clear hS'
        gi_wp2
        go_roundw
        case rel => exact ⟨j, by omega, by go_num, hJ'⟩
        case measure => show ((j : Int) - 1 + 1).toNat < ((j : Int) + 1).toNat; omega
      · gi_wp2
        refine bodyPost_ret (results_none rfl _ _ _) rfl ?_
        exact ⟨⟨_, rfl⟩, .inr hJx⟩
set_option maxRecDepth 100000 in
theorem back_calls (A : Option Addr) (c : Nat) (l : List ByteArray) (w : World) (hr : Kd.C Kd.string w A l.length l) :
    Calls Try.prog 33 #[.slice A l.length c] w fun e w' => e = .returned (.func (.func 49) #[] #[.pointer (some ⟨w.heap.size, 0, none⟩)]) ∧ BackSt w.heap.size A c l w' ∧ Below w.heap.size w w' := by
  have HR := Lib.hid hr
  clear hr
  go_enter Try.func33, Try.ntmps33
  go_wp2
  go_ret
  exact ⟨rfl, ⟨World.alloc_heap_new w _, Kd.C_alloc HR.out _⟩, (Below.refl _ _).alloc (Nat.le_refl _) _⟩
end Go.Proofs.Ytoihdghoopgdfaa
end
section
/-
  slices.Chunk at []byte and the function that it hands back: what is handed to yield, round by round.
-/
namespace Go.Proofs.Ytoihdghoopgdfaa
open Go.RowKit Go.Proofs.YtoihdghoopgdfaaW.PrintWords Go.Proofs.YtoihdghoopgdfaaW.PrintLast Go.Proofs.YtoihdghoopgdfaaW.PrintMore Go.Proofs.YtoihdghoopgdfaaR
set_option linter.unusedVariables false
set_option linter.unusedSimpArgs false
attribute [local go_sem] Oper.semAt_some
structure ChunkSt (bs : Nat) (A : Option Addr) (n c : Nat) (W : World) : Prop where
  cs : W.heap[bs]? = some (.cells #[.slice A n c] 42 (0, 0))
  cn : W.heap[bs + 1]? = some (.cells #[.int .i64 32] 3 (0, 0))
def chunkLen (n k : Nat) : Nat := if n - 32 * k < 32 then n - 32 * k else 32
def chunkEnc (A : Option Addr) (n k : Nat) : Array Value := #[.slice (A.map (·.add (32 * k))) (chunkLen n k) (chunkLen n k)]
set_option maxRecDepth 100000 in
theorem chunk_calls (A : Option Addr) (n c : Nat) (w : World) :
    Calls Try.prog 43 #[.slice A n c, .int .i64 32] w fun e w' => e = .returned (.func (.func 56) #[] #[.pointer (some ⟨w.heap.size, 0, none⟩), .pointer (some ⟨w.heap.size + 1, 0, none⟩)]) ∧ ChunkSt w.heap.size A n c w' ∧ Below w.heap.size w w' ∧ w'.heap.size = w.heap.size + 2 := by
  go_enter Try.func43, Try.ntmps43
  go_wp2
  go_ret
  exact ⟨rfl, ⟨(Below.heap_alloc _ _ _ (by simp)).trans (World.alloc_heap_new w _), by have := World.alloc_heap_new (w.alloc (.cells #[.slice A n c] 42)) (.cells #[.int .i64 32] 3); simpa using this⟩, ((Below.refl _ _).alloc (Nat.le_refl _) _).alloc (by simp) _, by simp⟩
set_option maxRecDepth 100000 in
set_option maxHeartbeats 4000000 in
theorem chunk1_sim (bs : Nat) (A : Option Addr) (n c : Nat) (hA : A = none → n = 0) (hc : n ≤ c) (hl : n ≤ 140737488355328) : SeqSimD Try.prog 56 #[.pointer (some ⟨bs, 0, none⟩), .pointer (some ⟨bs + 1, 0, none⟩)] (chunkEnc A n) ((n + 31) / 32) (fun _ => ChunkSt bs A n c) (fun _ W => W) := by
  intro l_ J Jx W h0 hd hst hY
  have c0 := cell_of_one (hst 0 W h0).cs
  refine callsIn_of_wp Try.func56 rfl trivial ?_ rfl
  simp only [Try.ntmps56, List.size_toArray, List.length_cons, List.length_nil, Nat.reduceAdd, Nat.reduceSub, Array.replicate_succ, Array.replicate_zero, List.push_toArray, List.append_toArray, List.nil_append, List.cons_append]
  gi_wp2
  gi_loopw [4] (fun v wr => ∃ j : Nat, j ≤ (n + 31) / 32 ∧ v = .int .i64 ((32 * j : Nat) : Int) ∧ J j wr) (fun v _ => (n + 31) / 32 - (intOf v).toNat / 32)
  case atStart => exact ⟨0, by omega, rfl, h0⟩
  case round =>
    obtain ⟨j, hj, rfl, hJ⟩ := hrel
    have hS := hst _ wr hJ
    have c1 := cell_of_one hS.cs
    have c2 := cell_of_one hS.cn
    by_cases hlt : j < (n + 31) / 32
    · obtain ⟨ad, rfl⟩ : ∃ ad, A = some ad := by cases A with
        | none => have := hA rfl; omega
        | some ad => exact ⟨ad, rfl⟩
      have hy0 := hY _ wr.drew (hd _ _ hJ) hlt
      obtain ⟨m, hm⟩ : ∃ m, m = chunkLen n j := ⟨_, rfl⟩
      obtain ⟨q, hq⟩ : ∃ q, q = 32 * j := ⟨_, rfl⟩
      have hqn : q < n := by omega
      have hm1 : m = if n - q < 32 then n - q else 32 := by rw [hm, hq]; rfl
      have he : chunkEnc (some ad) n j = #[.slice (some (ad.add q)) m m] := by rw [chunkEnc, ← hm, ← hq]; rfl
      rw [he] at hy0
      rw [← hq]
      have HQ := Lib.hid hq
      have HM := Lib.hid hm1
      obtain ⟨fn, tmps, assign, body, hy, hR⟩ := hy0
      try dsimp only at hy
      have t1 : decide ((q : Int) < (n : Int)) = true := by simpa using hqn
      have i0 : (0 : Int) ≤ (q : Int) := by omega
      have i1 : (q : Int) ≤ (n : Int) := by omega
      have i2 : (q : Int) ≤ (c : Int) := by omega
      have i3 : ¬ (c = q) := by omega
      clear hS he hm hq hm1
      have i4 : q + m ≤ n := by have := HM.out; split at this <;> omega
      have i5 : (q : Int) + (m : Int) ≤ (n : Int) := by omega
      have i6 : (q : Int) + (m : Int) ≤ (c : Int) := by omega
      have i7 : (q : Int) ≤ (q : Int) + (m : Int) := by omega
      have i8 : 0 < m := by have := HM.out; split at this <;> omega
      have i9 : (q : Int) + 32 ≤ 9223372036854775807 := by omega
      have w1 : IntKind.i64.wrap ((q : Int) + (m : Int)) = (q : Int) + (m : Int) := IntWalk.i64_in _ (by omega)
      by_cases h32 : n - q < 32
      · have hm2 : n - q = m := by rw [HM.out, if_pos h32]
        have t2 : ((n : Int) - (q : Int)) < 32 := by omega
        gi_wp2
        gi_region
        clear hm2 t2 h32
        gi_wp2
        refine hR.mono ?_
        rintro e W' (⟨rfl, hS', hJ'⟩ | ⟨rfl, hJx⟩)
        · have d1 := cell_of_one hS'.cs
          have d2 := cell_of_one hS'.cn
          clear hS'
          gi_wp2
          go_roundw
          case rel => exact ⟨j + 1, by omega, by have := HQ.out; go_num, hJ'⟩
          case measure => have := HQ.out; simp [intOf]; omega
        · gi_wp2
          refine bodyPost_ret (results_none rfl _ _ _) rfl ?_
          exact ⟨⟨_, rfl⟩, .inr hJx⟩
      · have hm2 : m = 32 := by rw [HM.out, if_neg h32]
        gi_wp2
        gi_region
        rw [show (32 : Int) = (m : Int) by omega]
        clear hm2 h32
        gi_wp2
        refine hR.mono ?_
        rintro e W' (⟨rfl, hS', hJ'⟩ | ⟨rfl, hJx⟩)
        · have d1 := cell_of_one hS'.cs
          have d2 := cell_of_one hS'.cn
          clear hS'
          gi_wp2
          go_roundw
          case rel => exact ⟨j + 1, by omega, by have := HQ.out; go_num, hJ'⟩
          case measure => have := HQ.out; simp [intOf]; omega
        · gi_wp2
          refine bodyPost_ret (results_none rfl _ _ _) rfl ?_
          exact ⟨⟨_, rfl⟩, .inr hJx⟩
    · have t1 : decide (((32 * j : Nat) : Int) < (n : Int)) = false := by simp; omega
      have hjn : j = (n + 31) / 32 := by omega
      have HJ := Lib.hid (show J ((n + 31) / 32) wr by rw [← hjn]; exact hJ)
      clear hjn
      gi_wp2
      go_end0
      exact ⟨⟨_, rfl⟩, .inl HJ.out⟩
end Go.Proofs.Ytoihdghoopgdfaa
end
