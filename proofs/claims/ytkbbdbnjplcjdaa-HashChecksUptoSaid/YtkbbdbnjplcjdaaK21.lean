-- JOINED BY A PROGRAM OF THIS PLACE (wip/tools/pack.py) out of: TkNext TkWalk
import Derived.Test.YtkbbdbnjplcjdaaK5
import Derived.Test.YtkbbdbnjplcjdaaK9
import Derived.Test.YtkbbdbnjplcjdaaK16
section
/-
  sawyerref15's taker: what lies where; its next.
-/
namespace Go.Proofs.Ytkbbdbnjplcjdaa
open Go.RowKit Go.Proofs.YtkbbdbnjplcjdaaW.PrintWords Go.Proofs.YtkbbdbnjplcjdaaW.PrintLast Go.Proofs.YtkbbdbnjplcjdaaW.PrintMore
set_option linter.unusedVariables false
set_option linter.unusedSimpArgs false
structure TkSt (w0 : World) (b : Nat) (W : World) (A : Option Addr) (c : Nat) (p : List ByteArray) (bad : Bool) : Prop where
  hb : Below w0.heap.size w0 W
  gb : w0.heap.size ≤ b
  ct : W.heap[b]? = some (.cells #[.slice A p.length c, .bool bad] 64 (0, 0))
  rd : Kd.C Kd.string w0 A p.length p
  le : p.length ≤ c
theorem two_setCell0 {w : World} {b : Nat} {u v x : Value} {t : TypeId} (h : w.heap[b]? = some (.cells #[u, v] t (0, 0))) : (w.setCell ⟨b, 0, none⟩ x).heap[b]? = some (.cells #[x, v] t (0, 0)) := by
  rw [heap_setCell_same8 h]; rfl
theorem two_setCell1 {w : World} {b : Nat} {u v x : Value} {t : TypeId} (h : w.heap[b]? = some (.cells #[u, v] t (0, 0))) : (w.setCell ⟨b, 1, none⟩ x).heap[b]? = some (.cells #[u, x] t (0, 0)) := by
  simp [World.setCell, Array.getElem?_modify, h]
theorem two_cell0 {w : World} {b : Nat} {u v : Value} {t : TypeId} (h : w.heap[b]? = some (.cells #[u, v] t (0, 0))) : w.cell? ⟨b, 0, none⟩ = some u := by simp [World.cell?, h]
theorem two_cell1 {w : World} {b : Nat} {u v : Value} {t : TypeId} (h : w.heap[b]? = some (.cells #[u, v] t (0, 0))) : w.cell? ⟨b, 1, none⟩ = some v := by simp [World.cell?, h]
theorem two_free {w : World} {b i : Nat} {u v : Value} {t : TypeId} (h : w.heap[b]? = some (.cells #[u, v] t (0, 0))) : w.frozen? ⟨b, i, none⟩ = false := by simp [World.frozen?, h]
theorem TkSt.setBad {w0 : World} {b : Nat} {W : World} {A : Option Addr} {c : Nat} {p : List ByteArray} {bad : Bool} (h : TkSt w0 b W A c p bad) (x : Bool) : TkSt w0 b (W.setCell ⟨b, 1, none⟩ (.bool x)) A c p x :=
  { h with hb := below_setCell h.hb h.gb _ _, ct := two_setCell1 h.ct }
theorem TkSt.setP {w0 : World} {b : Nat} {W : World} {A A' : Option Addr} {c c' : Nat} {p p' : List ByteArray} {bad : Bool} (h : TkSt w0 b W A c p bad) (hrd : Kd.C Kd.string w0 A' p'.length p') (hle : p'.length ≤ c') : TkSt w0 b (W.setCell ⟨b, 0, none⟩ (.slice A' p'.length c')) A' c' p' bad :=
  { h with hb := below_setCell h.hb h.gb _ _, ct := two_setCell0 h.ct, rd := hrd, le := hle }
theorem TkSt.later {w0 : World} {b : Nat} {W W' : World} {A : Option Addr} {c : Nat} {p : List ByteArray} {bad : Bool} (h : TkSt w0 b W A c p bad) (hb : Below W.heap.size W W') : TkSt w0 b W' A c p bad :=
  { h with hb := below_then h.hb h.hb.size hb, ct := (hb.block _ (lt_of_block h.ct)).trans h.ct }
def TkNextPost (w0 : World) (b : Nat) (p : List ByteArray) (bad : Bool) (e : Ending) (W' : World) : Prop :=
  ∃ (A' : Option Addr) (c' : Nat), e = .returned (.string (Hs.next p).1) ∧ TkSt w0 b W' A' c' (Hs.next p).2.1 (bad || (Hs.next p).2.2)
set_option maxHeartbeats 1000000 in
set_option maxRecDepth 100000 in
theorem tknext_calls (w0 : World) (b : Nat) (W : World) (A : Option Addr) (c : Nat) (p : List ByteArray) (bad : Bool) (h : TkSt w0 b W A c p bad) :
    Calls Try.prog 58 #[ptr b] W (TkNextPost w0 b p bad) := by
  have H := Lib.hid h
  have hc1 := two_cell0 h.ct
  have hc2 := two_cell1 h.ct
  have hf1 := two_free (i := 0) h.ct
  have hf2 := two_free (i := 1) h.ct
  cases p with
  | nil =>
    clear h
    unfold ptr
    go_enter Try.func58, Try.ntmps58
    go_wp2
    go_ret
    exact ⟨A, c, rfl, by have := H.out.setBad true; simpa [Hs.next] using this⟩
  | cons s r =>
    have hne : ((((s :: r).length : Nat) : Int) == 0) = false := by simp; omega
    obtain ⟨ad, rfl, hcell⟩ := Kd.at_string (Kd.C_below h.rd h.hb) 0 (by decide) (by simp)
    obtain ⟨i9, hi9, _, hsz9, _⟩ := info_parts infoS
    have hcut := cut_from (P := Try.prog) 22 9 .i64 Try.underlying22 hi9 1 hsz9 (some ad) (s :: r).length c 1 (by omega) (by simp; omega)
    have hrd : Kd.C Kd.string w0 (if c = 1 then some ad else (some ad).map (·.add (1 * 1))) r.length r := Kd.C_drop (k := Kd.string) (m := 1) h.rd (by simp) h.le
    have hle : r.length ≤ c - 1 := by have := h.le; simp at this; omega
    obtain ⟨A', hA'⟩ : ∃ A', A' = if c = 1 then some ad else (some ad).map (·.add (1 * 1)) := ⟨_, rfl⟩
    have hcut2 : ∀ W : World, (Instr.slice 22 (.slice (some ad) (s :: r).length c) (some (.int .i64 1)) none none).run Try.prog W = .ok (.slice A' r.length (c - 1)) W := by
      intro W
      rw [hcut W, hA']
      rfl
    rw [← hA'] at hrd
    have HRD := Lib.hid hrd
    have HLE := Lib.hid hle
    have hpos : 0 < (s :: r).length := by simp
    have hlen := H.out.rd.2.1
    simp only [rdOf, Int.toNat_zero, List.getD_cons_zero, show ad.add 0 = ad from by simp [Addr.add]] at hcell
    clear h hcut hrd hle hA'
    generalize hq : (s :: r).length = q at *
    have HQ := Lib.hid hq
    clear hq
    unfold ptr
    go_enter Try.func58, Try.ntmps58
    go_wp2
    go_ret
    exact ⟨A', c - 1, rfl, by have := H.out.setP HRD.out HLE.out; simpa [Hs.next] using this⟩
end Go.Proofs.Ytkbbdbnjplcjdaa
end
section
/-
  sawyerref15's taker: its walk down both trees.
-/
namespace Go.Proofs.Ytkbbdbnjplcjdaa
open Go.RowKit Go.Proofs.YtkbbdbnjplcjdaaW.PrintWords Go.Proofs.YtkbbdbnjplcjdaaW.PrintLast Go.Proofs.YtkbbdbnjplcjdaaW.PrintMore
set_option linter.unusedVariables false
set_option linter.unusedSimpArgs false
def TkWalkPost (w0 : World) (b : Nat) (old : ByteArray) (m n : Nat) (own : Bool) (p : List ByteArray) (bad : Bool) (e : Ending) (W' : World) : Prop :=
  ∃ (A' : Option Addr) (c' : Nat), e = .returned (.tuple #[.string (Hs.walk old m n own p).1, .string (Hs.walk old m n own p).2.1]) ∧ TkSt w0 b W' A' c' (Hs.walk old m n own p).2.2.1 (bad || (Hs.walk old m n own p).2.2.2)
theorem rnode_small (a b : ByteArray) (ha : small a) (hb : small b) : sawyerref15_Node.f a b = some (Hs.node a b) := F.rnode_some a b (by unfold small at ha hb; omega)
set_option maxHeartbeats 4000000 in
set_option maxRecDepth 100000 in
theorem tkwalk_calls (w0 : World) (b : Nat) (old : ByteArray) (ho : small old) (n : Nat) : ∀ (m : Nat) (own : Bool) (p : List ByteArray) (bad : Bool) (W : World) (A : Option Addr) (c : Nat), 1 ≤ m → m ≤ n → n ≤ 1099511627776 → (∀ x ∈ p, small x) → TkSt w0 b W A c p bad →
    Calls Try.prog 48 #[ptr b, .int .i64 m, .int .i64 n, .bool own, .string old] W (TkWalkPost w0 b old m n own p bad) := by
  induction n using Nat.strongRecOn with
  | ind n ih =>
    intro m own p bad W A c h1 h2 h3 hp hst
    have IH := Lib.hid ih
    have HP := Lib.hid hp
    have HS := Lib.hid hst
    have HO := Lib.hid ho
    clear ih hp hst ho
    by_cases hm : m = n
    · subst hm
      have hb1 : ((m : Int) == (m : Int)) = true := beq_self_eq_true _
      cases own with
      | true =>
        unfold ptr
        go_enter Try.func48, Try.ntmps48
        go_wp2
        go_ret2
        exact ⟨A, c, by rw [Hs.walk_own]; rfl, by rw [Hs.walk_own]; simpa using HS.out⟩
      | false =>
        unfold ptr
        go_enter Try.func48, Try.ntmps48
        go_wp2_with fail
        refine (tknext_calls w0 b W A c p bad HS.out).mono ?_
        rintro e w2 ⟨A2, c2, rfl, hs2⟩
        have HS2 := Lib.hid hs2
        clear hs2
        go_wp2
        go_ret2
        exact ⟨A2, c2, by rw [Hs.walk_all]; rfl, by rw [Hs.walk_all]; exact HS2.out⟩
    · have hn2 : 2 ≤ n := by omega
      have hb1 : ((m : Int) == (n : Int)) = false := beq_eq_false_iff_ne.2 (by omega)
      have hlt := Hs.cut_lt n hn2
      obtain ⟨kc, hkc⟩ := (F.rcut_some n hn2 (by omega)).rounds
      have HC := Lib.hid hkc
      clear hkc
      by_cases hk : m ≤ Hs.cut n
      · have hki : (m : Int) ≤ (Hs.cut n : Int) := by omega
        unfold ptr
        go_enter Try.func48, Try.ntmps48
        go_wp2_with fail
        refine (F.sawyerref15_Cut.calls kc (n : Int) (Hs.cut n : Int) _ HC.out).mono ?_
        rintro e w1 ⟨rfl, hdd⟩
        have HS1 := Lib.hid (HS.out.later hdd)
        clear hdd
        go_wp2_with fail
        refine (IH.out (Hs.cut n) hlt m own p bad w1 A c h1 hk (by omega) HP.out HS1.out).mono ?_
        rintro e w2 ⟨A2, c2, rfl, hs2⟩
        obtain ⟨q, hq⟩ : ∃ q, q = Hs.walk old m (Hs.cut n) own p := ⟨_, rfl⟩
        rw [← hq] at hs2
        have hsm := small_walk old (Hs.cut n) m own p HO.out HP.out
        rw [← hq] at hsm ⊢
        have HQ := Lib.hid hq
        have HSM := Lib.hid hsm
        have HS2 := Lib.hid hs2
        clear hq hsm hs2
        obtain ⟨qa, qb, ql, qx⟩ := q
        dsimp only
        go_wp2_with fail
        refine (tknext_calls w0 b w2 A2 c2 ql (bad || qx) HS2.out).mono ?_
        rintro e w3 ⟨A3, c3, rfl, hs3⟩
        have HS3 := Lib.hid hs3
        clear hs3
        go_wp2_with fail
        refine (sawyerref15_Node.calls _ _ _ _ (rnode_small qb (Hs.next ql).1 HSM.out.2.1 (small_next ql HSM.out.2.2).1)).mono ?_
        rintro e w4 ⟨rfl, hb4⟩
        have HS4 := Lib.hid (HS3.out.later hb4)
        clear hb4
        go_wp2
        go_ret2
        refine ⟨A3, c3, ?_, ?_⟩
        · rw [Hs.walk_left old m n own p hm hn2 hk, ← HQ.out]
          rfl
        · rw [Hs.walk_left old m n own p hm hn2 hk, ← HQ.out, ← Bool.or_assoc]
          exact HS4.out
      · have hki : ¬ (m : Int) ≤ (Hs.cut n : Int) := by omega
        unfold ptr
        go_enter Try.func48, Try.ntmps48
        have ha1 : (m : Int) - (Hs.cut n : Int) = ((m - Hs.cut n : Nat) : Int) := by omega
        have ha2 : (n : Int) - (Hs.cut n : Int) = ((n - Hs.cut n : Nat) : Int) := by omega
        have hp1 := Hs.cut_pos n
        go_wp2_with fail
        refine (F.sawyerref15_Cut.calls kc (n : Int) (Hs.cut n : Int) _ HC.out).mono ?_
        rintro e w1 ⟨rfl, hdd⟩
        have HS1 := Lib.hid (HS.out.later hdd)
        clear hdd
        go_wp2_with fail
        clear ha1 ha2
        refine (IH.out (n - Hs.cut n) (by omega) (m - Hs.cut n) false p bad w1 A c (by omega) (by omega) (by omega) HP.out HS1.out).mono ?_
        rintro e w2 ⟨A2, c2, rfl, hs2⟩
        obtain ⟨q, hq⟩ : ∃ q, q = Hs.walk old (m - Hs.cut n) (n - Hs.cut n) false p := ⟨_, rfl⟩
        rw [← hq] at hs2
        have hsm := small_walk old (n - Hs.cut n) (m - Hs.cut n) false p HO.out HP.out
        rw [← hq] at hsm ⊢
        have HQ := Lib.hid hq
        have HSM := Lib.hid hsm
        have HS2 := Lib.hid hs2
        clear hq hsm hs2
        obtain ⟨qa, qb, ql, qx⟩ := q
        dsimp only
        go_wp2_with fail
        refine (tknext_calls w0 b w2 A2 c2 ql (bad || qx) HS2.out).mono ?_
        rintro e w3 ⟨A3, c3, rfl, hs3⟩
        have HS3 := Lib.hid hs3
        clear hs3
        go_wp2_with fail
        refine (sawyerref15_Node.calls _ _ _ _ (rnode_small (Hs.next ql).1 qa (small_next ql HSM.out.2.2).1 HSM.out.1)).mono ?_
        rintro e w4 ⟨rfl, hb4⟩
        have HS4 := Lib.hid (HS3.out.later hb4)
        clear hb4
        go_wp2_with fail
        refine (sawyerref15_Node.calls _ _ _ _ (rnode_small (Hs.next ql).1 qb (small_next ql HSM.out.2.2).1 HSM.out.2.1)).mono ?_
        rintro e w5 ⟨rfl, hb5⟩
        have HS5 := Lib.hid (HS4.out.later hb5)
        clear hb5
        go_wp2
        go_ret2
        refine ⟨A3, c3, ?_, ?_⟩
        · rw [Hs.walk_right old m n own p hm hn2 (by omega), ← HQ.out]
          rfl
        · rw [Hs.walk_right old m n own p hm hn2 (by omega), ← HQ.out, ← Bool.or_assoc]
          exact HS5.out
end Go.Proofs.Ytkbbdbnjplcjdaa
end
