-- JOINED BY A PROGRAM OF THIS PLACE (wip/tools/pack.py) out of: Back
import Derived.OneCell
import Derived.Laws.EntriesVeiled
import Derived.Test.YtopacnaiedlaaaaDoorL4
import Derived.Test.YtopacnaiedlaaaaDoorL36
section
/-
  slices.Backward at []string and the function that it hands back: what is handed to yield, round by round.
-/
namespace Go.Proofs.YtopacnaiedlaaaaDoor
open Go.RowKit Go.Proofs.YtopacnaiedlaaaaDoorW.PrintWords Go.Proofs.YtopacnaiedlaaaaDoorW.PrintLast Go.Proofs.YtopacnaiedlaaaaDoorW.PrintMore Go.Proofs.YtopacnaiedlaaaaDoorR
set_option linter.unusedVariables false
set_option linter.unusedSimpArgs false
attribute [local go_sem] Oper.semAt_some
structure BackSt (bs : Nat) (A : Option Addr) (c : Nat) (l : List ByteArray) (W : World) : Prop where
  cs : W.heap[bs]? = some (.cells #[.slice A l.length c] 47 (0, 0))
  rd : Kd.C Kd.string W A l.length l
def backVal (l : List ByteArray) (k : Nat) : ByteArray := l.getD (l.length - 1 - k) ByteArray.empty
def backEnc (l : List ByteArray) (k : Nat) : Array Value := #[.int .i64 ((l.length - 1 - k : Nat) : Int), .string (backVal l k)]
theorem put_cells {W : World} {l b : Nat} {o o' : Obj} {cs : Array Value} {t : TypeId} (hl : W.heap[l]? = some o) (ho : o.isCells = false) (hb : W.heap[b]? = some (.cells cs t (0, 0))) : (W.putObj l o').heap[b]? = some (.cells cs t (0, 0)) := by
  by_cases e : b = l
  · subst e
    rw [hl] at hb
    cases hb
    cases ho
  · exact (World.putObj_heap_other e).trans hb
theorem put_below {n₀ : Nat} {w W : World} {l : Nat} {o o' : Obj} (h : Below n₀ w W) (hn : n₀ ≤ l) (hl : W.heap[l]? = some o) : Below n₀ w (W.putObj l o') :=
  h.trans ((Below.refl n₀ W).grown (grownBy_putObj' W l o') (by have := (Array.getElem?_eq_some_iff.1 hl).1; omega) (fun k e => by cases e; omega))
theorem keeps_below {W W' : World} (hb : Below W.heap.size W W') : KeepsOthers W W' := ⟨hb.size, fun k o hk _ => (hb.block k (Array.getElem?_eq_some_iff.1 hk).1).trans hk⟩
set_option maxRecDepth 100000 in
set_option maxHeartbeats 4000000 in
theorem back1_sim (bs : Nat) (A : Option Addr) (c : Nat) (l : List ByteArray) (hl : l.length ≤ 9223372036854775806) : SeqSimA Tryd.prog 60 #[.pointer (some ⟨bs, 0, none⟩)] (backEnc l) l.length (fun _ => BackSt bs A c l) (fun _ W => W) := by
  intro l_ J Jx W h0 hst hY
  obtain ⟨n, hn⟩ : ∃ n, n = l.length := ⟨_, rfl⟩
  have HN := Lib.hid hn
  have hw0 : IntKind.i64.wrap ((n : Int) - 1) = (n : Int) - 1 := IntWalk.i64_in _ (by omega)
  have c0 := cell_of_one (hst 0 W h0).cs
  rw [← hn] at c0
  refine callsIn_of_wp Tryd.func60 rfl trivial ?_ rfl
  simp only [Tryd.ntmps60, List.size_toArray, List.length_cons, List.length_nil, Nat.reduceAdd, Nat.reduceSub, Array.replicate_succ, Array.replicate_zero, List.push_toArray, List.append_toArray, List.nil_append, List.cons_append]
  rw [← hn]
  clear hn
  gi_wp2
  gi_loopw [3] (fun v wr => ∃ j : Nat, j ≤ n ∧ v = .int .i64 ((j : Int) - 1) ∧ J (n - j) wr) (fun v _ => (intOf v + 1).toNat)
  case atStart => exact ⟨n, by omega, rfl, by rw [Nat.sub_self]; exact h0⟩
  case round =>
    obtain ⟨j, hj, rfl, hJ⟩ := hrel
    have hS := hst _ wr hJ
    cases j with
    | zero =>
      rw [show (((0 : Nat) : Int) - 1) = -1 from rfl]
      gi_wp2
      go_end0
      exact ⟨⟨_, rfl⟩, .inl hJ⟩
    | succ j =>
      rw [show (((j + 1 : Nat) : Int) - 1) = (j : Int) by omega]
      have c1 := cell_of_one hS.cs
      rw [← HN.out] at c1
      obtain ⟨ad, rfl, c2⟩ := Kd.at_string hS.rd (j : Int) (by omega) (by have := HN.out; omega)
      simp only [rdOf, Int.toNat_natCast] at c2
      have hy0 := hY _ wr hJ (by have := HN.out; omega)
      have he : backEnc l (n - (j + 1)) = #[.int .i64 (j : Int), .string (l.getD j ByteArray.empty)] := by
        unfold backEnc backVal
        rw [← HN.out, show n - 1 - (n - (j + 1)) = j by omega]
      rw [he, show n - (j + 1) + 1 = n - j by omega] at hy0
      generalize l.getD j ByteArray.empty = x at *
      obtain ⟨fn, tmps, assign, body, hy, hR⟩ := hy0
      try dsimp only at hy
      have i0 : (0 : Int) ≤ (j : Int) := by omega
      have i1 : (j : Int) < (n : Int) := by omega
      have i2 : j < n := by omega
      have i3 : (j : Int) ≤ 9223372036854775806 := by have := HN.out; omega
      clear hS he
      gi_wp2
      refine hR.mono ?_
      rintro e W' (⟨rfl, hS', hJ'⟩ | ⟨rfl, hJx⟩)
      · clear hS'
        gi_wp2
        go_roundw
        case rel => exact ⟨j, by omega, by go_num, hJ'⟩
        case measure => show ((j : Int) - 1 + 1).toNat < ((j : Int) + 1).toNat; omega
      · gi_wp2
        refine bodyPost_ret (results_none rfl _ _ _) rfl ?_
        exact ⟨⟨_, rfl⟩, .inr hJx⟩
set_option maxRecDepth 100000 in
theorem back_calls (A : Option Addr) (c : Nat) (l : List ByteArray) (w : World) (hr : Kd.C Kd.string w A l.length l) :
    Calls Tryd.prog 40 #[.slice A l.length c] w fun e w' => e = .returned (.func (.func 60) #[] #[.pointer (some ⟨w.heap.size, 0, none⟩)]) ∧ BackSt w.heap.size A c l w' ∧ Below w.heap.size w w' := by
  have HR := Lib.hid hr
  clear hr
  go_enter Tryd.func40, Tryd.ntmps40
  go_wp2
  go_ret
  exact ⟨rfl, ⟨World.alloc_heap_new w _, Kd.C_alloc HR.out _⟩, (Below.refl _ _).alloc (Nat.le_refl _) _⟩
end Go.Proofs.YtopacnaiedlaaaaDoor
end
