/-
  bloom.places and the function that it hands back: what is handed to yield, round by round.
-/
import Derived.Test.YtojabcadoajbjaaRfSim
import Derived.Test.YtojabcadoajbjaaBase
import Derived.OneCell
import Derived.Test.YtojabcadoajbjaaClone
import Derived.Test.YtojabcadoajbjaaF1
import Derived.Laws.EntriesVeiled
namespace Go.Proofs.Ytojabcadoajbjaa
open Go.RowKit Go.Proofs.YtojabcadoajbjaaW.PrintWords Go.Proofs.YtojabcadoajbjaaW.PrintLast Go.Proofs.YtojabcadoajbjaaW.PrintMore Go.Proofs.YtojabcadoajbjaaR
set_option linter.unusedVariables false
set_option linter.unusedSimpArgs false
attribute [local go_sem] Oper.semAt_some

/-- the walk of the sums -/
def hsum (h s : Int) : Nat → Int
  | 0 => h
  | k + 1 => (hsum h s k + s) % 4294967296
structure PlSt (bh bb bs : Nat) (h s bits : Int) (k : Nat) (W : World) : Prop where
  ch : W.heap[bh]? = some (.cells #[.int .u32 (hsum h s k)] 33 (0, 0))
  cb : W.heap[bb]? = some (.cells #[.int .i64 bits] 3 (0, 0))
  cs : W.heap[bs]? = some (.cells #[.int .u32 s] 33 (0, 0))
def plAdv (bh : Nat) (h s : Int) (k : Nat) (W : World) : World := W.setCell ⟨bh, 0, none⟩ (.int .u32 (hsum h s (k + 1)))
theorem frozen_one {W : World} {b t : Nat} {v : Value} (h : W.heap[b]? = some (.cells #[v] t (0, 0))) : W.frozen? ⟨b, 0, none⟩ = false := by
  simp [World.frozen?, h]

set_option maxRecDepth 100000 in
set_option maxHeartbeats 4000000 in
theorem places1_sim (bh bb bs : Nat) (h s bits : Int) (hb : 0 < bits) : SeqSim Try.prog 17 #[.pointer (some ⟨bh, 0, none⟩), .pointer (some ⟨bb, 0, none⟩), .pointer (some ⟨bs, 0, none⟩)] (fun k => .int .i64 (Int.tmod (wrap64 (hsum h s k)) bits)) 6 (PlSt bh bb bs h s bits) (plAdv bh h s) := by
  intro l J Jx W h0 hst hY
  refine callsIn_of_wp Try.func17 rfl trivial ?_ rfl
  simp only [Try.ntmps17, List.size_toArray, List.length_cons, List.length_nil, Nat.reduceAdd, Nat.reduceSub, Array.replicate_succ, Array.replicate_zero, List.push_toArray, List.append_toArray, List.nil_append, List.cons_append]
  gi_wp2
  gi_loopw [5] (fun v wr => ∃ k : Nat, k ≤ 6 ∧ v = .int .i64 (k : Int) ∧ J k wr) (fun v _ => 6 - (intOf v).toNat)
  case atStart => exact ⟨0, by omega, rfl, h0⟩
  case round =>
    obtain ⟨k, hk, rfl, hJ⟩ := hrel
    have hS := hst k wr hJ
    have c1 := cell_of_one hS.ch
    have c2 := cell_of_one hS.cb
    have c3 := cell_of_one hS.cs
    by_cases hlt : k < 6
    · have hy0 := hY k wr hJ hlt
      obtain ⟨fn, tmps, assign, body, hy, hR⟩ := hy0
      try dsimp only at hy
      have hbn : ¬ bits = 0 := by omega
      clear hS
      gi_wp2
      refine hR.mono ?_
      rintro e W' (⟨rfl, hS', hJ'⟩ | ⟨rfl, hJx⟩)
      · have d1 := cell_of_one hS'.ch
        have d3 := cell_of_one hS'.cs
        have d4 := free_of_one hS'.ch
        clear hS'
        gi_wp2
        go_roundw
        case rel => exact ⟨k + 1, by omega, by go_num, hJ'⟩
        case measure => show 6 - ((k : Int) + 1).toNat < 6 - (k : Int).toNat; omega
      · gi_wp2
        refine bodyPost_ret (results_none rfl _ _ _) rfl ?_
        exact ⟨⟨_, rfl⟩, .inr hJx⟩
    · obtain rfl : k = 6 := by omega
      gi_wp2
      go_end0
      exact ⟨⟨_, rfl⟩, .inl hJ⟩

/-- Where the three cells lie. -/
structure PlAt (base : Nat) (h s bits : Int) (v : Value) (W : World) (bh bb bs : Nat) : Prop where
  ev : v = .func (.func 17) #[] #[.pointer (some ⟨bh, 0, none⟩), .pointer (some ⟨bb, 0, none⟩), .pointer (some ⟨bs, 0, none⟩)]
  st : PlSt bh bb bs h s bits 0 W
  gh : base ≤ bh
  gb : base ≤ bb
  gs : base ≤ bs
  hb : bh ≠ bb
  hs : bh ≠ bs

def c1u (s : Int) : Int := Go.bits .or .u32 s 1

set_option maxRecDepth 100000 in
set_option maxHeartbeats 4000000 in
theorem places_calls (k1 k2 : Nat) (A : Option Addr) (c : Nat) (key : List Int) (bits h s : Int) (w : World) (hC : Kd.C (Kd.int .u8) w A key.length key) (hc : key.length ≤ c) (hl : key.length ≤ 140737488355000)
    (h1 : F.code_Crc.f k1 key = some h) (h2 : F.code_Crc.f k2 (key ++ [1]) = some s) :
    Calls Try.prog 13 #[.slice A key.length c, .int .i64 bits] w fun e w' => ∃ v bh bb bs, e = .returned v ∧ PlAt w.heap.size h (c1u s) bits v w' bh bb bs ∧ Below w.heap.size w w' := by
  obtain ⟨q, hq⟩ : ∃ q, q = key ++ [1] := ⟨_, rfl⟩
  rw [← hq] at h2
  have HQ := Lib.hid hq
  clear hq
  have HR := Lib.hid hC
  have HC := Lib.hid hc
  have H1 := Lib.hid h1
  have H2 := Lib.hid h2
  clear hC hc h1 h2
  go_enter Try.func13, Try.ntmps13
  go_wp2_with fail
  have hb0 : Below w.heap.size w (w.alloc (.cells #[.int .i64 bits] 3 (0, 0))) := (Below.refl _ _).alloc (Nat.le_refl _) _
  refine (F.code_Crc.calls k1 A c key h _ (Kd.C_below HR.out hb0) HC.out H1.out).mono ?_
  rintro e w1 ⟨rfl, hd1⟩
  have cB : Hid (w1.heap[w.heap.size]? = some (.cells #[.int .i64 bits] 3 (0, 0))) := Lib.hid ((hd1.below.block _ (by simp)).trans (heap_alloc_last w _))
  have HB1 := Lib.hid (below_then hb0 hb0.size hd1.below)
  have hz1 : w.heap.size < w1.heap.size := by have := hd1.below.size; simp at this; omega
  clear hb0 hd1
  go_wp2_with fail
  obtain ⟨X, hX⟩ : ∃ X, X = w1.alloc (.cells #[.int .u32 h] 33 (0, 0)) := ⟨_, rfl⟩
  have cH : Hid (X.heap[w1.heap.size]? = some (.cells #[.int .u32 h] 33 (0, 0))) := Lib.hid (by rw [hX]; exact heap_alloc_last w1 _)
  have cB2 : Hid (X.heap[w.heap.size]? = some (.cells #[.int .i64 bits] 3 (0, 0))) := Lib.hid (by rw [hX]; exact (Below.heap_alloc _ _ _ hz1).trans cB.out)
  have HBX : Hid (Below w.heap.size w X) := Lib.hid (by rw [hX]; exact HB1.out.alloc (by omega) _)
  have hzX : w1.heap.size < X.heap.size := by rw [hX]; simp
  rw [← hX]
  clear hX cB
  refine (clone8_calls A c key X (Kd.C_below HR.out HBX.out) (by omega)).mono ?_
  rintro e w2 ⟨v1, rfl, ho1, hb2⟩
  have cH2 := Lib.hid ((hb2.block _ hzX).trans cH.out)
  have cB3 := Lib.hid ((hb2.block _ (by omega)).trans cB2.out)
  have HB2 := Lib.hid (below_then HBX.out HBX.out.size hb2)
  have HO2 := Lib.hid ho1
  have hz2 := hb2.size
  clear cH cB2 ho1 hb2 HB1
  go_wp2_with (first | (at_builtin; refine app_one (w0 := w2) X.heap.size rfl (.tmp 10) (.tmp 11) rfl v1 key 1 rfl rfl HO2.out (Below.refl _ _) hz2 (by omega) ?_; intro v3 w3 ho3 hb3 hg3 _; rw [← HQ.out] at ho3; have HO3 := Lib.hid ho3; have HB3 := Lib.hid hb3; clear ho3 hb3 hg3; obtain ⟨A3, c3, rfl⟩ := Kd.R_slice HO3.out) | fail)
  refine (F.code_Crc.calls k2 A3 c3 q s _ (Kd.R_reads' HO3.out).2.2 (Kd.R_reads' HO3.out).2.1 H2.out).mono ?_
  rintro e w4 ⟨rfl, hd4⟩
  have cH4 := Lib.hid ((hd4.below.block _ (Nat.lt_of_lt_of_le hzX (Nat.le_trans hz2 HB3.out.size))).trans ((HB3.out.block _ hzX).trans cH2.out))
  have cB4 := Lib.hid ((hd4.below.block _ (Nat.lt_of_lt_of_le (Nat.lt_trans hz1 hzX) (Nat.le_trans hz2 HB3.out.size))).trans ((HB3.out.block _ (Nat.lt_trans hz1 hzX)).trans cB3.out))
  have HB4 : Hid (Below w.heap.size w w4) := Lib.hid (HB2.out.trans ((HB3.out.mono (Nat.le_of_lt (Nat.lt_trans hz1 hzX))).trans (hd4.below.mono (by have := HB3.out.size; omega))))
  have hz4 : w1.heap.size < w4.heap.size := by have := hd4.below.size; have := HB3.out.size; omega
  clear hd4 HB3 HO3 cH2 cB3 HB2 HO2
  go_wp2
  go_ret
  exact ⟨_, w1.heap.size, w.heap.size, w4.heap.size, rfl, ⟨rfl, ⟨(Below.heap_alloc _ _ _ hz4).trans cH4.out, (Below.heap_alloc _ _ _ (by omega)).trans cB4.out, World.alloc_heap_new w4 _⟩, by omega, by omega, by have := HB4.out.size; omega, by omega, by omega⟩, HB4.out.alloc (by omega) _⟩
end Go.Proofs.Ytojabcadoajbjaa
