/-
  One block taken: what (*sha.state).take does to the state.
-/
import Derived.Test.YtbnlkecjcgknhaaExpand
namespace Go.Proofs.Ytbnlkecjcgknhaa
open Go.RowKit Go.Proofs.YtbnlkecjcgknhaaW.PrintWords Go.Proofs.YtbnlkecjcgknhaaW.PrintLast Go.Proofs.YtbnlkecjcgknhaaW.PrintMore
set_option linter.unusedVariables false
set_option linter.unusedSimpArgs false

theorem u32s_eq8 (s : List Int) (h : s.length = 8) : ∃ a b c d e f g i, s = [a, b, c, d, e, f, g, i] := by
  match s, h with
  | [a, b, c, d, e, f, g, i], _ => exact ⟨a, b, c, d, e, f, g, i, rfl⟩

theorem take_world {w w2 X : World} {g : Nat} {Z K W : Array Value} (hX : (((w2.alloc (.cells Z 40)).alloc (.cells Z 40)).setRow w2.heap.size K).setRow (w2.heap.size + 1) W = X) (hg : g < w2.heap.size) (hb : Below w.heap.size w w2) :
    X.heap[w2.heap.size]? = some (.cells K 40 (0, 0)) ∧ X.heap[w2.heap.size + 1]? = some (.cells W 40 (0, 0)) ∧ X.heap[g]? = w2.heap[g]? ∧ Below w.heap.size w X ∧ X.heap.size = w2.heap.size + 2 := by
  subst hX
  refine ⟨?_, ?_, ?_, ?_, by simp⟩
  · rw [setRow_other _ _ _ _ (by omega)]
    exact setRow_heap _ _ _ _ _ _ (heap_alloc2_old w2 _ _)
  · exact setRow_heap _ _ _ _ _ _ ((setRow_other _ _ _ _ (by omega)).trans (heap_alloc2_new w2 _ _))
  · rw [setRow_other _ _ _ _ (by omega), setRow_other _ _ _ _ (by omega), heap_alloc_old _ _ (by simp; omega), heap_alloc_old _ _ hg]
  · have := hb.size
    exact below_setRow (below_setRow ((hb.alloc this _).alloc (by simp; omega) _) this _) (by omega) _

theorem infoU32 : (Try.prog.info? 31).map (·.size) = some 1 := by kernel_rfl

/-- what lies in memory while the rounds go on: K, the words, the eight letters, the state -/
structure TakeAt (w : World) (g n m : Nat) (S Wd s : List Int) (wr : World) : Prop where
  below : Below w.heap.size w wr
  size : wr.heap.size = m + 1
  hk : wr.heap[n]? = some (.cells (u32s Sha.K) 40 (0, 0))
  hw : wr.heap[n + 1]? = some (.cells (u32s Wd) 40 (0, 0))
  hl : wr.heap[m]? = some (.cells (u32s s) 33 (0, 0))
  hs : wr.heap[g]? = some (.cells (u32s S) 33 (0, 0))

namespace TakeAt
variable {w wr : World} {g n m : Nat} {S Wd s : List Int}
theorem drewN (h : TakeAt w g n m S Wd s wr) (k : Nat) : TakeAt w g n m S Wd s (wr.drewN k) := ⟨pw_below_drewN h.below k, h.size, h.hk, h.hw, h.hl, h.hs⟩
theorem drew (h : TakeAt w g n m S Wd s wr) : TakeAt w g n m S Wd s wr.drew := ⟨below_drew h.below, h.size, h.hk, h.hw, h.hl, h.hs⟩
theorem at_k (h : TakeAt w g n m S Wd s wr) (j : Nat) (hj : j < 64) : wr.cell? ⟨n, j, none⟩ = some (.int .u32 (Sha.K.getD j 0)) := by
  rw [cell_of_row wr _ j _ _ _ h.hk, u32s_at _ _ hj]
theorem at_w (h : TakeAt w g n m S Wd s wr) (j : Nat) (hj : j < Wd.length) : wr.cell? ⟨n + 1, j, none⟩ = some (.int .u32 (Wd.getD j 0)) := by
  rw [cell_of_row wr _ j _ _ _ h.hw, u32s_at _ _ hj]
theorem at_l (h : TakeAt w g n m S Wd s wr) (j : Nat) (hj : j < s.length) : wr.cell? ⟨m, j, none⟩ = some (.int .u32 (s.getD j 0)) := by
  rw [cell_of_row wr _ j _ _ _ h.hl, u32s_at _ _ hj]
theorem free (h : TakeAt w g n m S Wd s wr) (j : Nat) : wr.frozen? ⟨m, j, none⟩ = false := frozen_of_row wr _ j _ _ h.hl
theorem set (h : TakeAt w g n m S Wd s wr) (j : Nat) (v : Int) (hg : g < m) (hn : n + 1 < m) (hm : w.heap.size ≤ m) : TakeAt w g n m S Wd (s.set j v) (wr.setCell ⟨m, j, none⟩ (.int .u32 v)) := by
  refine ⟨h.below.setCell (p := ⟨m, j, none⟩) hm _, by simpa using h.size, ?_, ?_, ?_, ?_⟩
  · rw [heap_setCell_other _ _ _ _ (by simp; omega)]; exact h.hk
  · rw [heap_setCell_other _ _ _ _ (by simp; omega)]; exact h.hw
  · rw [heap_setCell_same _ _ _ _ _ _ h.hl]
    congr 2
    simp [u32s]
  · rw [heap_setCell_other _ _ _ _ (by simp; omega)]; exact h.hs
theorem row (h : TakeAt w g n m S Wd s wr) (s' : List Int) (hg : g < m) (hn : n + 1 < m) (hm : w.heap.size ≤ m) : TakeAt w g n m S Wd s' (wr.setRow m (u32s s')) := by
  refine ⟨below_setRow h.below hm _, by simpa using h.size, ?_, ?_, setRow_heap _ _ _ _ _ _ h.hl, ?_⟩
  · rw [setRow_other _ _ _ _ (by omega)]; exact h.hk
  · rw [setRow_other _ _ _ _ (by omega)]; exact h.hw
  · rw [setRow_other _ _ _ _ (by omega)]; exact h.hs
end TakeAt

theorem big1_same (x : Int) (w : World) :
    Calls Try.prog 20 #[.int .u32 x, .int .i64 6, .int .i64 11, .int .i64 25] w fun e w' => e = .returned (.int .u32 (Sha.big1 x)) ∧ w' = w := (big1_calls x w).mono fun _ _ h => ⟨h.1, h.2.symm⟩
theorem big0_same (x : Int) (w : World) :
    Calls Try.prog 20 #[.int .u32 x, .int .i64 2, .int .i64 13, .int .i64 22] w fun e w' => e = .returned (.int .u32 (Sha.big0 x)) ∧ w' = w := (big0_calls x w).mono fun _ _ h => ⟨h.1, h.2.symm⟩

theorem grown_set {w w' : World} {b : Nat} (h : w.grownBy w' (some b)) (j : Nat) (v : Value) : w.grownBy (w'.setCell ⟨b, j, none⟩ v) (some b) :=
  ⟨h.os, h.tape, h.output, by simpa using h.size, fun i hi hne => (heap_setCell_other _ _ _ _ (fun e => hne (by rw [e]))).trans (h.block i hi hne)⟩
theorem grown_drew {w w' : World} {row : Option Nat} (h : w.grownBy w' row) : w.grownBy w'.drew row := ⟨h.os, h.tape, h.output, h.size, h.block⟩

theorem u32s_setIn (p : List Int) (k : Nat) (v : Int) : (u32s p).setIfInBounds k (.int .u32 v) = u32s (p.set k v) := by simp [u32s]
theorem take_set (T S : List Int) (k : Nat) (hT : k < T.length) (hS : k < S.length) : (T.take k ++ S.drop k).set k (T.getD k 0) = T.take (k + 1) ++ S.drop (k + 1) := by
  rw [List.set_append_right _ _ (by simp; omega), List.drop_eq_getElem_cons hS]
  simp only [List.length_take, Nat.min_eq_left (Nat.le_of_lt hT), Nat.sub_self, List.set_cons_zero]
  rw [List.take_succ_eq_append_getElem hT, List.getD_eq_getElem?_getD, List.getElem?_eq_getElem hT, List.append_assoc]
  rfl

theorem grown_below {w w1 : World} (h : Below w.heap.size w w1) (row : Option Nat) : w.grownBy w1 row := grown_of_below h row

set_option maxHeartbeats 4000000 in
set_option maxRecDepth 100000 in
theorem take_calls (g : Nat) (S : List Int) (hS : S.length = 8) (A : Option Addr) (c : Nat) (l : List Int) (w : World) (hst : w.heap[g]? = some (.cells (u32s S) 33 (0, 0)))
    (hr : Kd.C (Kd.int .u8) w A l.length l) (hc : l.length ≤ c) (hl : l.length = 64) (hby : ∀ x ∈ l, 0 ≤ x ∧ x < 256) :
    Calls Try.prog 16 #[.pointer (some ⟨g, 0, none⟩), .slice A l.length c] w fun e w' => e = .returned (.tuple #[]) ∧ w'.heap[g]? = some (.cells (u32s (Sha.take S l)) 33 (0, 0)) ∧ w.grownBy w' (some g) := by
  have hg : g < w.heap.size := (Array.getElem?_eq_some_iff.1 hst).1
  have hv := zeroArr
  have hv2 := zeroSt
  have HR := Lib.hid hr
  have HL := Lib.hid hl
  have HBY := Lib.hid hby
  have HST := Lib.hid hst
  have HS := Lib.hid hS
  clear hr hl hby hst hS
  go_enter Try.func16, Try.ntmps16
  go_wp2_with fail
  refine (table_calls _).mono ?_
  rintro e w1 ⟨rfl, hb1⟩
  have HB1 := Lib.hid hb1
  clear hb1
  go_wp2_with fail
  refine (expand_calls A c l w1 (Kd.C_below HR.out HB1.out) hc HL.out HBY.out).mono ?_
  rintro e w2 ⟨rfl, hb2⟩
  have HB2 := Lib.hid hb2
  clear hb2
  have hg1 : g < w1.heap.size := Nat.lt_of_lt_of_le hg HB1.out.size
  have hg2 : g < w2.heap.size := Nat.lt_of_lt_of_le hg1 HB2.out.size
  have HG := Lib.hid (show w2.heap[g]? = some (.cells (u32s S) 33 (0, 0)) from ((HB2.out.block g hg1).trans (HB1.out.block g hg)).trans HST.out)
  have HB : Hid (Below w.heap.size w w2) := Lib.hid (below_then HB1.out HB1.out.size HB2.out)
  have hsz2 : w.heap.size ≤ w2.heap.size := HB.out.size
  clear HB1 HB2 hg1
  go_wp2_with (first | (refine wpList_store_row rfl 40 (.tmp 4) (.tmp 13) rfl w2.heap.size (u32s Sha.K) rfl rfl 40 _ (heap_alloc2_old w2 _ _) infoArr (by simp [u32s, Sha.K]) (u32s_one _) ?_) | (refine wpList_store_row rfl 40 (.tmp 5) (.tmp 15) rfl (w2.heap.size + 1) (u32s (Sha.words l)) rfl rfl 40 _ ((setRow_other _ _ _ _ (by omega)).trans (heap_alloc2_new w2 _ _)) (by rw [u32s_size, Sha.words_length]; exact infoArr) (by rw [u32s_size, Sha.words_length]; simp) (u32s_one _) ?_; generalize hX : World.setRow _ (w2.heap.size + 1) _ = X; have FX := Lib.hid (take_world hX hg2 HB.out); clear hX) | (refine wpList_load_row rfl 33 (.tmp 17) rfl g rfl 33 (u32s S) (0, 0) _ (FX.out.2.2.1.trans HG.out) Try.underlying33 rfl (by rw [u32s_size, HS.out]; exact infoSt) ?_; have hszX := Lib.hid FX.out.2.2.2.2) | (refine wpList_store_row rfl 33 (.tmp 6) (.tmp 18) rfl X.heap.size (u32s S) rfl rfl 33 _ (heap_alloc_last X _) (by rw [u32s_size, HS.out]; exact infoSt) (by rw [u32s_size, HS.out]; simp) (u32s_one _) ?_; rw [World.setRow_alloc_new]))
  have hgm : g < X.heap.size := by have := hszX.out; omega
  have hnm : w2.heap.size + 1 < X.heap.size := by have := hszX.out; omega
  have hwm : w.heap.size ≤ X.heap.size := by have := hszX.out; omega
  have hT0 : Hid (TakeAt w g w2.heap.size X.heap.size S (Sha.words l) S (X.alloc (.cells (u32s S) 33))) := Lib.hid (by
    obtain ⟨f1, f2, f3, f4, f5⟩ := FX.out
    refine ⟨f4.alloc hwm _, by simp, ?_, ?_, heap_alloc_last X _, ?_⟩
    · rw [heap_alloc_old _ _ (by omega)]; exact f1
    · rw [heap_alloc_old _ _ (by omega)]; exact f2
    · rw [heap_alloc_old _ _ hgm, f3]; exact HG.out)
  clear FX hv hv2 HG HB HST HR HBY hg2
  clear hszX
  go_loopw [19] (fun v wr => ∃ (t : Nat) (s : List Int), t ≤ 64 ∧ v = .int .i64 t ∧ s.length = 8 ∧ Sha.rounds (Sha.K.drop t) ((Sha.words l).drop t) s = Sha.rounds Sha.K (Sha.words l) S ∧ TakeAt w g w2.heap.size X.heap.size S (Sha.words l) s wr) (fun v _ => 64 - (intOf v).toNat)
  case atStart => exact ⟨0, S, by omega, by go_num, HS.out, rfl, hT0.out⟩
  case round =>
    obtain ⟨t, s, ht, rfl, hs, hrd, hT⟩ := hrel
    by_cases hlt : t < 64
    · obtain ⟨a, b, c0, d, e, f, g0, h0, rfl⟩ := u32s_eq8 s hs
      have HT := Lib.hid hT
      have HRD := Lib.hid hrd
      clear hT hrd hs
      have l0 := HT.out.at_l 0 (by simp)
      have l4 := HT.out.at_l 4 (by simp)
      simp only [List.getD_cons_zero, List.getD_cons_succ] at l0 l4
      go_wp2
      go_quiet (fail)
      have HT1 := Lib.hid (HT.out.drewN nq)
      clear HT l0 l4
      generalize wr.drewN nq = wa at *
      have l5 := HT1.out.at_l 5 (by simp)
      have l6 := HT1.out.at_l 6 (by simp)
      have l7 := HT1.out.at_l 7 (by simp)
      simp only [List.getD_cons_zero, List.getD_cons_succ] at l5 l6 l7
      have kt := HT1.out.at_k t hlt
      have wt := HT1.out.at_w t (by rw [Sha.words_length]; exact hlt)
      obtain ⟨kk, hkk⟩ : ∃ x, x = Sha.K.getD t 0 := ⟨_, rfl⟩
      obtain ⟨ww, hww⟩ : ∃ x, x = (Sha.words l).getD t 0 := ⟨_, rfl⟩
      rw [← hkk] at kt
      rw [← hww] at wt
      have HKK := Lib.hid hkk
      have HWW := Lib.hid hww
      clear hkk hww
      go_wp2
      have r0 : (0 : Int) ≤ (t : Int) := by omega
      have r1 : (t : Int) < 64 := by omega
      go_quiet ((go_at_call 20; exact Calls.quiet_of_same (big1_same _ _)))
      clear r0 r1
      have HT2 := Lib.hid (HT1.out.drewN nq)
      clear HT1 l5 l6 l7 kt wt
      generalize wa.drewN nq = wb at *
      have l1 := HT2.out.at_l 1 (by simp)
      have l2 := HT2.out.at_l 2 (by simp)
      simp only [List.getD_cons_zero, List.getD_cons_succ] at l1 l2
      go_wp2
      go_quiet ((go_at_call 20; exact Calls.quiet_of_same (big0_same _ _)))
      have HT3 := Lib.hid (HT2.out.drewN nq)
      clear HT2 l1 l2
      generalize wb.drewN nq = wc at *
      go_wp2
      go_still_tail 2, (by kernel_rfl)
      change wpList _ _ _ _ _ wc.drew
      have HT4 := Lib.hid HT3.out.drew
      clear HT3
      generalize wc.drew = wd at *
      refine wpList_copy_own rfl (.tmp 68) (.tmp 69) 37 37 rfl 31 Try.underlying37 infoU32 X.heap.size 1 7 7 ⟨X.heap.size, 0, none⟩ 7 8 rfl rfl (u32s [a, b, c0, d, e, f, g0, h0]) 33 HT4.out.hl [.int .u32 a, .int .u32 b, .int .u32 c0, .int .u32 d, .int .u32 e, .int .u32 f, .int .u32 g0] rfl ?hsrc (by simp [u32s]) ?hone ?_
      case hsrc =>
        intro j v hj
        rw [add_plain, cell_of_row wd _ j _ _ _ HT4.out.hl]
        match j, hj with
        | 0, hj => exact hj
        | 1, hj => exact hj
        | 2, hj => exact hj
        | 3, hj => exact hj
        | 4, hj => exact hj
        | 5, hj => exact hj
        | 6, hj => exact hj
        | n + 7, hj => simp at hj
      case hone => intro v hv; simp at hv; rcases hv with rfl | rfl | rfl | rfl | rfl | rfl | rfl <;> rfl
      change wpList _ _ _ _ _ (World.setRow wd X.heap.size (u32s [a, a, b, c0, d, e, f, g0]))
      have HT5 := Lib.hid (HT4.out.row [a, a, b, c0, d, e, f, g0] hgm hnm hwm)
      clear HT4
      generalize World.setRow wd X.heap.size (u32s [a, a, b, c0, d, e, f, g0]) = wz at *
      have l0 := HT5.out.at_l 0 (by simp)
      have l4 := HT5.out.at_l 4 (by simp)
      simp only [List.getD_cons_zero, List.getD_cons_succ] at l0 l4
      have f0 := HT5.out.free 0
      have f4 := HT5.out.free 4
      go_wp2
      go_roundw
      case rel =>
        refine ⟨t + 1, _, by omega, by go_num, ?_, ?_, (HT5.out.set 4 _ hgm hnm hwm).set 0 _ hgm hnm hwm⟩
        · rfl
        · rw [← HRD.out]
          have hK : Sha.K.drop t = kk :: Sha.K.drop (t + 1) := by
            rw [HKK.out, List.drop_eq_getElem_cons (show t < Sha.K.length from hlt), List.getD_eq_getElem?_getD, List.getElem?_eq_getElem (show t < Sha.K.length from hlt)]
            rfl
          have hW : (Sha.words l).drop t = ww :: (Sha.words l).drop (t + 1) := by
            have hh : t < (Sha.words l).length := by rw [Sha.words_length]; exact hlt
            rw [HWW.out, List.drop_eq_getElem_cons hh, List.getD_eq_getElem?_getD, List.getElem?_eq_getElem hh]
            rfl
          rw [hK, hW, show IntKind.u32.max = 4294967295 from rfl]
          simp only [Sha.rounds, Sha.step, List.set_cons_succ, List.set_cons_zero]
          unfold Sha.x1 Sha.y1 Sha.ch Sha.maj Sha.xor Sha.and
          congr 2
          · omega
          · congr 4
            omega
      case measure => simp [intOf]; omega
    · obtain rfl : t = 64 := by omega
      rw [List.drop_eq_nil_of_le (show Sha.K.length ≤ 64 from Nat.le_refl _)] at hrd
      have hsL : s = Sha.rounds Sha.K (Sha.words l) S := hrd
      have HT := Lib.hid hT
      have hgr := Lib.hid (grown_below hT.below (some g))
      have HL8 := Lib.hid hs
      have HRD := Lib.hid hsL
      clear hT hrd hs hsL hlt ht
      rw [show ((64 : Nat) : Int) = 64 from rfl]
      go_wp2
      go_loopw [81] (fun v wx => ∃ k : Nat, k ≤ 8 ∧ v = .int .i64 k ∧ w.grownBy wx (some g) ∧ wx.heap[X.heap.size]? = some (.cells (u32s s) 33 (0, 0)) ∧ wx.heap[g]? = some (.cells (u32s ((Sha.take S l).take k ++ S.drop k)) 33 (0, 0))) (fun v _ => 8 - (intOf v).toNat)
      case atStart => exact ⟨0, by omega, by go_num, hgr.out, HT.out.hl, HT.out.hs⟩
      case round =>
        obtain ⟨k, hk, rfl, hgx, hl1, hs1⟩ := hrel
        obtain ⟨wx, rfl⟩ : ∃ wx, wx = wr := ⟨_, rfl⟩
        have hTL : (Sha.take S l).length = 8 := Sha.take_length _ _ HS.out
        have hSL := HS.out
        have hLL := HL8.out
        by_cases hlt : k < 8
        · have ga : wx.cell? ⟨X.heap.size, k, none⟩ = some (.int .u32 (s.getD k 0)) := by rw [cell_of_row wx _ k _ _ _ hl1, u32s_at _ _ (by omega)]
          have gb : wx.cell? ⟨g, k, none⟩ = some (.int .u32 (S.getD k 0)) := by
            rw [cell_of_row wx _ k _ _ _ hs1, u32s_at _ _ (by simp [hTL, hSL]; omega)]
            rw [List.getD_eq_getElem?_getD, List.getElem?_append_right (by simp [hTL]; omega), List.length_take, hTL, Nat.min_eq_left hk, Nat.sub_self, List.getElem?_drop, Nat.add_zero, ← List.getD_eq_getElem?_getD]
          have gf : wx.frozen? ⟨g, k, none⟩ = false := frozen_of_row wx _ k _ _ hs1
          obtain ⟨x, ex⟩ : ∃ x, x = s.getD k 0 := ⟨_, rfl⟩
          obtain ⟨y, ey⟩ : ∃ x, x = S.getD k 0 := ⟨_, rfl⟩
          rw [← ex] at ga
          rw [← ey] at gb
          have EX := Lib.hid ex
          have EY := Lib.hid ey
          have HTL := Lib.hid hTL
          have hgx' := Lib.hid hgx
          have hl1' := Lib.hid hl1
          have hs1' := Lib.hid hs1
          clear hgx hl1 hs1 hTL hSL hLL ex ey
          go_wp2
          have r0 : (0 : Int) ≤ (k : Int) := by omega
          have r1 : (k : Int) < 8 := by omega
          go_still_tail 11, (by kernel_rfl)
          clear r0 r1
          change wpList _ _ _ _ _ wx.drew
          go_wp2
          go_roundw
          case rel =>
            have hTL := HTL.out
            have hSL := HS.out
            have hv : (y + x) % 4294967296 = (Sha.take S l).getD k 0 := by
              rw [EX.out, EY.out, HRD.out]
              have hRL := Sha.rounds_length Sha.K (Sha.words l) S HS.out
              simp only [Sha.take, List.getD_eq_getElem?_getD, List.getElem?_zipWith]
              rw [List.getElem?_eq_getElem (by omega), List.getElem?_eq_getElem (by omega)]
              rfl
            rw [hv]
            refine ⟨k + 1, by omega, by go_num, grown_drew (grown_set hgx'.out k _), ?_, ?_⟩
            · rw [heap_drew, heap_setCell_other _ _ _ _ (by simp; omega)]; exact hl1'.out
            · rw [heap_drew, heap_setCell_same _ _ _ _ _ _ hs1'.out, u32s_setIn, take_set _ _ _ (by omega) (by omega)]
          case measure => simp [intOf]; omega
        · obtain rfl : k = 8 := by omega
          rw [List.drop_eq_nil_of_le (by omega), List.append_nil, List.take_of_length_le (by omega)] at hs1
          have hgx' := Lib.hid hgx
          have hs1' := Lib.hid hs1
          clear hgx hl1 hs1 hTL hSL hLL
          go_wp2
          go_end0
          exact ⟨rfl, hs1'.out, hgx'.out⟩
end Go.Proofs.Ytbnlkecjcgknhaa
