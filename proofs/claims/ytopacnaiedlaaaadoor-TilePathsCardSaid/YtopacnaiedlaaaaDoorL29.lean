-- JOINED BY A PROGRAM OF THIS PLACE (wip/tools/pack.py) out of: TNodes
import Derived.Test.YtopacnaiedlaaaaDoorL21
import Derived.Test.YtopacnaiedlaaaaDoorL22
section
/-
  tile.PathNodes and tile.ProofNodes: their walks and contracts.
-/
namespace Go.Proofs.YtopacnaiedlaaaaDoor
open Go.RowKit Go.Lib Go.Proofs.YtopacnaiedlaaaaDoorW.PrintWords Go.Proofs.YtopacnaiedlaaaaDoorW.PrintLast Go.Proofs.YtopacnaiedlaaaaDoorW.PrintMore
set_option linter.unusedVariables false
set_option linter.unusedSimpArgs false
attribute [local go_sem] Oper.semAt_some
abbrev RowsP := List (List F.S29)
def tile_PathNodes.f (k : Nat) (a0 a1 : Int) : Option (RowsP × Int) := if a1 < 1 then some ([], 8) else if 1099511627776 < a1 then some ([], 8) else if a0 < 0 then some ([], 8) else if a1 ≤ a0 then some ([], 8) else (F.splitP.f k a1 0 a0).bind fun t => some (t.1.reverse, 0)
def tile_ProofNodes.f (k : Nat) (a0 a1 : Int) : Option (RowsP × Int) := if a0 < 1 then some ([], 8) else if a1 < a0 then some ([], 8) else if 1099511627776 < a1 then some ([], 8) else (F.splitQ.f k a1 0 a0).bind fun t => if 0 < t.2.1 then (F.tile_Cover.f k t.2.1 t.2.2).bind fun l => if 0 < t.1.length ∧ (t.1.length + 1) * 24 ≤ 140737488355328 then some (l.1 :: t.1.reverse, 0) else none else some (t.1.reverse, 0)
abbrev PathPost (w : World) (r1 : RowsP) (r2 : Int) (e : Ending) (w' : World) : Prop :=
  ∃ v0_ : Value, e = .returned (.tuple #[v0_, .int .i64 r2]) ∧ Kd.S (Kd.slice 29 F.k29) 24 w' w.heap.size (fun _ => True) v0_ r1 ∧ Below w.heap.size w w'
set_option maxHeartbeats 4000000 in
set_option maxRecDepth 100000 in
theorem path_err (a0 a1 : Int) (w : World) (h : a1 < 1 ∨ 1099511627776 < a1 ∨ a0 < 0 ∨ a1 ≤ a0) :
    Calls Tryd.prog 15 #[.int .i64 a0, .int .i64 a1] w (PathPost w [] 8) := by
  by_cases h0 : a1 < 1
  · have d0 : decide (a1 < 1) = true := by simpa using h0
    clear h h0
    go_enter Tryd.func15, Tryd.ntmps15
    go_wp2
    go_ret2
    exact ⟨_, rfl, Kd.S_nil _ _ _ _ _, (Below.refl _ _).alloc (Nat.le_refl _) _⟩
  · by_cases h1 : 1099511627776 < a1
    · have d0 : decide (a1 < 1) = false := by simpa using h0
      have d1 : decide (1099511627776 < a1) = true := by simpa using h1
      clear h h0 h1
      go_enter Tryd.func15, Tryd.ntmps15
      go_wp2
      go_ret2
      exact ⟨_, rfl, Kd.S_nil _ _ _ _ _, (Below.refl _ _).alloc (Nat.le_refl _) _⟩
    · by_cases h2 : a0 < 0
      · have d0 : decide (a1 < 1) = false := by simpa using h0
        have d1 : decide (1099511627776 < a1) = false := by simpa using h1
        have d2 : decide (a0 < 0) = true := by simpa using h2
        clear h h0 h1 h2
        go_enter Tryd.func15, Tryd.ntmps15
        go_wp2
        go_ret2
        exact ⟨_, rfl, Kd.S_nil _ _ _ _ _, (Below.refl _ _).alloc (Nat.le_refl _) _⟩
      · have h3 : a1 ≤ a0 := by omega
        have d0 : decide (a1 < 1) = false := by simpa using h0
        have d1 : decide (1099511627776 < a1) = false := by simpa using h1
        have d2 : decide (a0 < 0) = false := by simpa using h2
        have d3 : decide (a1 ≤ a0) = true := by simpa using h3
        clear h h0 h1 h2 h3
        go_enter Tryd.func15, Tryd.ntmps15
        go_wp2
        go_ret2
        exact ⟨_, rfl, Kd.S_nil _ _ _ _ _, (Below.refl _ _).alloc (Nat.le_refl _) _⟩
set_option maxHeartbeats 4000000 in
set_option maxRecDepth 100000 in
theorem path_ok (k : Nat) (a0 a1 : Int) (t : RowsP) (lo hi : Int) (w : World) (h0 : ¬ a1 < 1) (h1 : ¬ 1099511627776 < a1) (h2 : ¬ a0 < 0) (h3 : ¬ a1 ≤ a0) (h : F.splitP.f k a1 0 a0 = some (t, lo, hi)) :
    Calls Tryd.prog 15 #[.int .i64 a0, .int .i64 a1] w (PathPost w t.reverse 0) := by
  have d0 : decide (a1 < 1) = false := by simpa using h0
  have d1 : decide (1099511627776 < a1) = false := by simpa using h1
  have d2 : decide (a0 < 0) = false := by simpa using h2
  have d3 : decide (a1 ≤ a0) = false := by simpa using h3
  have HH := Lib.hid h
  clear h h0 h1 h2 h3
  go_enter Tryd.func15, Tryd.ntmps15
  go_wp2_with fail
  refine (F.splitP.calls k a1 0 a0 t lo hi w.heap.size _ (by rw [blk_cell (blk_new w _)]; rfl) HH.out).mono ?_
  rintro e w1 ⟨v, rfl, hS, hb⟩
  have hs1 : (w.alloc (.cells #[.int .i64 a0] 3)).heap.size = w.heap.size + 1 := by simp
  have HS := Lib.hid (Kd.S_lower hS (by rw [hs1]; exact Nat.le_succ _))
  have HB := Lib.hid (below_then ((Below.refl _ _).alloc (Nat.le_refl _) _) (by omega) hb)
  clear hS hb
  go_wp2
  go_ret2
  exact ⟨_, rfl, HS.out, HB.out⟩
theorem tile_PathNodes.calls (k : Nat) (a0 : Int) (a1 : Int) (r1 : RowsP) (r2 : Int) (w : World) (h : tile_PathNodes.f k a0 a1 = some (r1, r2)) :
    Calls Tryd.prog 15 #[.int .i64 a0, .int .i64 a1] w (PathPost w r1 r2) := by
  unfold tile_PathNodes.f at h
  by_cases h0 : a1 < 1
  · rw [if_pos h0] at h
    injection h with h; injection h with e1 e2
    subst e1; subst e2
    exact path_err a0 a1 w (.inl h0)
  rw [if_neg h0] at h
  by_cases h1 : 1099511627776 < a1
  · rw [if_pos h1] at h
    injection h with h; injection h with e1 e2
    subst e1; subst e2
    exact path_err a0 a1 w (.inr (.inl h1))
  rw [if_neg h1] at h
  by_cases h2 : a0 < 0
  · rw [if_pos h2] at h
    injection h with h; injection h with e1 e2
    subst e1; subst e2
    exact path_err a0 a1 w (.inr (.inr (.inl h2)))
  rw [if_neg h2] at h
  by_cases h3 : a1 ≤ a0
  · rw [if_pos h3] at h
    injection h with h; injection h with e1 e2
    subst e1; subst e2
    exact path_err a0 a1 w (.inr (.inr (.inr h3)))
  rw [if_neg h3] at h
  obtain ⟨⟨t, lo, hi⟩, hs, h⟩ := Option.bind_eq_some_iff.mp h
  injection h with h; injection h with e1 e2
  subst e1; subst e2
  exact path_ok k a0 a1 t lo hi w h0 h1 h2 h3 hs
set_option maxHeartbeats 4000000 in
set_option maxRecDepth 100000 in
theorem proof_err (a0 a1 : Int) (w : World) (h : a0 < 1 ∨ a1 < a0 ∨ 1099511627776 < a1) :
    Calls Tryd.prog 17 #[.int .i64 a0, .int .i64 a1] w (PathPost w [] 8) := by
  by_cases h0 : a0 < 1
  · have d0 : decide (a0 < 1) = true := by simpa using h0
    clear h h0
    go_enter Tryd.func17, Tryd.ntmps17
    go_wp2
    go_ret2
    exact ⟨_, rfl, Kd.S_nil _ _ _ _ _, (Below.refl _ _).alloc (Nat.le_refl _) _⟩
  · by_cases h1 : a1 < a0
    · have d0 : decide (a0 < 1) = false := by simpa using h0
      have d1 : decide (a1 < a0) = true := by simpa using h1
      clear h h0 h1
      go_enter Tryd.func17, Tryd.ntmps17
      go_wp2
      go_ret2
      exact ⟨_, rfl, Kd.S_nil _ _ _ _ _, (Below.refl _ _).alloc (Nat.le_refl _) _⟩
    · have h2 : 1099511627776 < a1 := by omega
      have d0 : decide (a0 < 1) = false := by simpa using h0
      have d1 : decide (a1 < a0) = false := by simpa using h1
      have d2 : decide (1099511627776 < a1) = true := by simpa using h2
      clear h h0 h1 h2
      go_enter Tryd.func17, Tryd.ntmps17
      go_wp2
      go_ret2
      exact ⟨_, rfl, Kd.S_nil _ _ _ _ _, (Below.refl _ _).alloc (Nat.le_refl _) _⟩
set_option maxHeartbeats 4000000 in
set_option maxRecDepth 100000 in
theorem proof_own (k : Nat) (a0 a1 : Int) (t : RowsP) (lo hi : Int) (w : World) (h0 : ¬ a0 < 1) (h1 : ¬ a1 < a0) (h2 : ¬ 1099511627776 < a1) (h : F.splitQ.f k a1 0 a0 = some (t, lo, hi)) (hlo : ¬ 0 < lo) :
    Calls Tryd.prog 17 #[.int .i64 a0, .int .i64 a1] w (PathPost w t.reverse 0) := by
  have d0 : decide (a0 < 1) = false := by simpa using h0
  have d1 : decide (a1 < a0) = false := by simpa using h1
  have d2 : decide (1099511627776 < a1) = false := by simpa using h2
  have d3 : decide (0 < lo) = false := by simpa using hlo
  have HH := Lib.hid h
  clear h h0 h1 h2 hlo
  go_enter Tryd.func17, Tryd.ntmps17
  go_wp2_with fail
  refine (F.splitQ.calls k a1 0 a0 t lo hi w.heap.size _ (by rw [blk_cell (blk_new w _)]; rfl) HH.out).mono ?_
  rintro e w1 ⟨v, rfl, hS, hb⟩
  have hs1 : (w.alloc (.cells #[.int .i64 a0] 3)).heap.size = w.heap.size + 1 := by simp
  have HS := Lib.hid (Kd.S_lower hS (by rw [hs1]; exact Nat.le_succ _))
  have HB := Lib.hid (below_then ((Below.refl _ _).alloc (Nat.le_refl _) _) (by omega) hb)
  clear hS hb
  go_wp2
  go_ret2
  exact ⟨_, rfl, HS.out, HB.out⟩
set_option maxHeartbeats 4000000 in
set_option maxRecDepth 100000 in
theorem proof_more (k : Nat) (a0 a1 : Int) (t : RowsP) (lo hi : Int) (l : List F.S29) (le : Int) (w : World) (h0 : ¬ a0 < 1) (h1 : ¬ a1 < a0) (h2 : ¬ 1099511627776 < a1) (h : F.splitQ.f k a1 0 a0 = some (t, lo, hi)) (hlo : 0 < lo)
    (hc : F.tile_Cover.f k lo hi = some (l, le)) (hp : 0 < t.length) (hbig : (t.length + 1) * 24 ≤ 140737488355328) :
    Calls Tryd.prog 17 #[.int .i64 a0, .int .i64 a1] w (PathPost w (l :: t.reverse) 0) := by
  have d0 : decide (a0 < 1) = false := by simpa using h0
  have d1 : decide (a1 < a0) = false := by simpa using h1
  have d2 : decide (1099511627776 < a1) = false := by simpa using h2
  have d3 : decide (0 < lo) = true := by simpa using hlo
  have HH := Lib.hid h
  have HC := Lib.hid hc
  have HP := Lib.hid hp
  have HBIG := Lib.hid hbig
  clear h h0 h1 h2 hlo hc hp hbig
  go_enter Tryd.func17, Tryd.ntmps17
  go_wp2_with fail
  refine (F.splitQ.calls k a1 0 a0 t lo hi w.heap.size _ (by rw [blk_cell (blk_new w _)]; rfl) HH.out).mono ?_
  rintro e w1 ⟨v, rfl, hS, hb⟩
  have hs1 : (w.alloc (.cells #[.int .i64 a0] 3)).heap.size = w.heap.size + 1 := by simp
  have HS := Lib.hid (Kd.S_lower hS (by rw [hs1]; exact Nat.le_succ _))
  have HB := Lib.hid (below_then ((Below.refl _ _).alloc (Nat.le_refl _) _) (by omega) hb)
  clear hS hb hs1
  go_wp2_with fail
  refine (F.tile_Cover.calls k lo hi l le w1 HC.out).mono ?_
  rintro e w2 ⟨lv, rfl, hl, hb2⟩
  have HS2 := Lib.hid (Kd.S_elder' HS.out (Kd.R_base hl) hb2)
  have HL := Lib.hid (Kd.R_lower hl HB.out.size)
  have HB2 := Lib.hid (below_then HB.out HB.out.size hb2)
  clear hl hb2
  obtain ⟨Al, cl, rfl⟩ := Kd.R_slice HL.out
  go_wp2_with fail
  refine (ins_S v (.slice Al l.length cl) t.reverse l w w2 HB2.out (Kd.S_mono HS2.out (fun k hk => hk.2)) HL.out (by rw [List.length_reverse]; exact HP.out) (by rw [List.length_reverse]; exact HBIG.out)).mono ?_
  rintro e w3 ⟨v', rfl, hS3, hb3⟩
  have HS3 := Lib.hid hS3
  have HB3 := Lib.hid hb3
  clear hS3 hb3
  go_wp2
  go_ret2
  exact ⟨_, rfl, HS3.out, HB3.out⟩
theorem tile_ProofNodes.calls (k : Nat) (a0 : Int) (a1 : Int) (r1 : RowsP) (r2 : Int) (w : World) (h : tile_ProofNodes.f k a0 a1 = some (r1, r2)) :
    Calls Tryd.prog 17 #[.int .i64 a0, .int .i64 a1] w (PathPost w r1 r2) := by
  unfold tile_ProofNodes.f at h
  by_cases h0 : a0 < 1
  · rw [if_pos h0] at h
    injection h with h; injection h with e1 e2
    subst e1; subst e2
    exact proof_err a0 a1 w (.inl h0)
  rw [if_neg h0] at h
  by_cases h1 : a1 < a0
  · rw [if_pos h1] at h
    injection h with h; injection h with e1 e2
    subst e1; subst e2
    exact proof_err a0 a1 w (.inr (.inl h1))
  rw [if_neg h1] at h
  by_cases h2 : 1099511627776 < a1
  · rw [if_pos h2] at h
    injection h with h; injection h with e1 e2
    subst e1; subst e2
    exact proof_err a0 a1 w (.inr (.inr h2))
  rw [if_neg h2] at h
  obtain ⟨⟨t, lo, hi⟩, hs, h⟩ := Option.bind_eq_some_iff.mp h
  dsimp only at h
  by_cases h3 : 0 < lo
  · rw [if_pos h3] at h
    obtain ⟨⟨l, le⟩, hc, h⟩ := Option.bind_eq_some_iff.mp h
    dsimp only at h
    by_cases h4 : 0 < t.length ∧ (t.length + 1) * 24 ≤ 140737488355328
    · rw [if_pos h4] at h
      injection h with h; injection h with e1 e2
      subst e1; subst e2
      exact proof_more k a0 a1 t lo hi l le w h0 h1 h2 hs h3 hc h4.1 h4.2
    · rw [if_neg h4] at h
      cases h
  · rw [if_neg h3] at h
    injection h with h; injection h with e1 e2
    subst e1; subst e2
    exact proof_own k a0 a1 t lo hi w h0 h1 h2 hs h3
end Go.Proofs.YtopacnaiedlaaaaDoor
end
