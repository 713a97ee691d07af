-- JOINED BY A PROGRAM OF THIS PLACE (wip/tools/pack.py) out of: ChkWalk
import Derived.Test.YtkbbdbnjplcjdaaC10
import Derived.Test.YtkbbdbnjplcjdaaC12
section
/-
  hash.CheckProof's inner functions, second part: the walk down both trees.
-/
namespace Go.Proofs.Ytkbbdbnjplcjdaa
open Go.RowKit Go.Proofs.YtkbbdbnjplcjdaaW.PrintWords Go.Proofs.YtkbbdbnjplcjdaaW.PrintLast Go.Proofs.YtkbbdbnjplcjdaaW.PrintMore
set_option linter.unusedVariables false
set_option linter.unusedSimpArgs false
def WalkPost (w0 : World) (X : CPBox) (old : ByteArray) (m n : Nat) (own : Bool) (p : List ByteArray) (bad : Bool) (e : Ending) (W' : World) : Prop :=
  ∃ (A' : Option Addr) (c' : Nat), e = .returned (.tuple #[.string (Hs.walk old m n own p).1, .string (Hs.walk old m n own p).2.1]) ∧ CPSt w0 X old W' A' c' (Hs.walk old m n own p).2.2.1 (bad || (Hs.walk old m n own p).2.2.2)
def small (s : ByteArray) : Prop := s.size ≤ 1099511627776
theorem small_next (p : List ByteArray) (h : ∀ x ∈ p, small x) : small (Hs.next p).1 ∧ ∀ x ∈ (Hs.next p).2.1, small x := by
  cases p with
  | nil => exact ⟨by unfold small; decide, h⟩
  | cons s r => exact ⟨h s (by simp), fun x hx => h x (by simp [Hs.next] at hx; simp [hx])⟩
theorem small_node (a b : ByteArray) : small (Hs.node a b) := by
  unfold small
  rw [Hs.node_size]
  omega
theorem small_walk (old : ByteArray) (n m : Nat) (own : Bool) (p : List ByteArray) (ho : small old) (h : ∀ x ∈ p, small x) :
    small (Hs.walk old m n own p).1 ∧ small (Hs.walk old m n own p).2.1 ∧ ∀ x ∈ (Hs.walk old m n own p).2.2.1, small x := by
  induction n using Nat.strongRecOn generalizing m own with
  | ind n ih =>
    by_cases hm : m = n
    · subst hm
      cases own with
      | true => rw [Hs.walk_own]; exact ⟨ho, ho, h⟩
      | false => rw [Hs.walk_all]; exact ⟨(small_next p h).1, (small_next p h).1, (small_next p h).2⟩
    · by_cases h2 : 2 ≤ n
      · by_cases hk : m ≤ Hs.cut n
        · obtain ⟨a, b, c⟩ := ih (Hs.cut n) (Hs.cut_lt n h2) m own
          rw [Hs.walk_left old m n own p hm h2 hk]
          exact ⟨a, small_node _ _, (small_next _ c).2⟩
        · have := Hs.cut_pos n
          obtain ⟨a, b, c⟩ := ih (n - Hs.cut n) (by omega) (m - Hs.cut n) false
          rw [Hs.walk_right old m n own p hm h2 (by omega)]
          exact ⟨small_node _ _, small_node _ _, (small_next _ c).2⟩
      · rw [Hs.walk, if_neg hm, dif_neg h2]
        exact ⟨ho, ho, h⟩
theorem node_small (a b : ByteArray) (ha : small a) (hb : small b) : F.hash_Node.f a b = some (Hs.node a b) := F.node_some a b (by unfold small at ha hb; omega)
set_option maxHeartbeats 4000000 in
set_option maxRecDepth 100000 in
theorem walk_calls (w0 : World) (X : CPBox) (old : ByteArray) (ho : small old) (n : Nat) : ∀ (m : Nat) (own : Bool) (p : List ByteArray) (bad : Bool) (W : World) (A : Option Addr) (c : Nat), 1 ≤ m → m ≤ n → n ≤ 1099511627776 → (∀ x ∈ p, small x) → CPSt w0 X old W A c p bad →
    Calls Try.prog 47 #[.int .i64 m, .int .i64 n, .bool own, ptr X.o, ptr X.n, ptr X.w] W (WalkPost w0 X old m n own p bad) := by
  induction n using Nat.strongRecOn with
  | ind n ih =>
    intro m own p bad W A c h1 h2 h3 hp hst
    have IH := Lib.hid ih
    have HP := Lib.hid hp
    have HS := Lib.hid hst
    have HO := Lib.hid ho
    clear ih hp hst ho
    by_cases hm : m = n
    · subst hm
      have hb1 : ((m : Int) == (m : Int)) = true := beq_self_eq_true _
      by_cases hn2 : 2 ≤ m
      · have hi2 : (2 : Int) ≤ (m : Int) := by omega
        have HC := Lib.hid (F.cut_some m hn2 (by omega))
        cases own with
        | true =>
          unfold ptr
          go_enter Try.func47, Try.ntmps47
          go_wp2_with fail
          refine (F.hash_cut.calls (m : Int) (Hs.cut m : Int) _ HC.out).mono ?_
          rintro e w1 ⟨rfl, hbb⟩
          have HS1 := Lib.hid (HS.out.later hbb)
          have hcO := cell_of_one HS1.out.co
          have hcN := cell_of_one HS1.out.cn
          have hcW := cell_of_one HS1.out.cw
          clear hbb
          go_wp2
          go_quiet (fail)
          go_wp2
          go_ret2
          exact ⟨A, c, by rw [Hs.walk_own]; rfl, by rw [Hs.walk_own]; simpa using HS1.out.later (Drawn0.mk ⟨_, rfl⟩).below⟩
        | false =>
          unfold ptr
          go_enter Try.func47, Try.ntmps47
          go_wp2_with fail
          refine (F.hash_cut.calls (m : Int) (Hs.cut m : Int) _ HC.out).mono ?_
          rintro e w1 ⟨rfl, hbb⟩
          have HS1 := Lib.hid (HS.out.later hbb)
          have hcO := cell_of_one HS1.out.co
          have hcN := cell_of_one HS1.out.cn
          have hcW := cell_of_one HS1.out.cw
          clear hbb
          unfold ptr at hcN
          go_wp2_with fail
          refine (next_calls w0 X old w1 A c p bad HS1.out).mono ?_
          rintro e w2 ⟨A2, c2, rfl, hs2⟩
          have HS2 := Lib.hid hs2
          clear hs2
          go_wp2
          go_ret2
          exact ⟨A2, c2, by rw [Hs.walk_all]; rfl, by rw [Hs.walk_all]; exact HS2.out⟩
      · obtain rfl : m = 1 := by omega
        have HC := Lib.hid (F.cut_some 2 (by omega) (by omega))
        cases own with
        | true =>
          unfold ptr
          go_enter Try.func47, Try.ntmps47
          go_wp2_with fail
          refine (F.hash_cut.calls 2 (Hs.cut 2 : Int) _ HC.out).mono ?_
          rintro e w1 ⟨rfl, hbb⟩
          have HS1 := Lib.hid (HS.out.later hbb)
          have hcO := cell_of_one HS1.out.co
          have hcN := cell_of_one HS1.out.cn
          have hcW := cell_of_one HS1.out.cw
          clear hbb
          go_wp2
          go_quiet (fail)
          go_wp2
          go_ret2
          exact ⟨A, c, by rw [Hs.walk_own]; rfl, by rw [Hs.walk_own]; simpa using HS1.out.later (Drawn0.mk ⟨_, rfl⟩).below⟩
        | false =>
          unfold ptr
          go_enter Try.func47, Try.ntmps47
          go_wp2_with fail
          refine (F.hash_cut.calls 2 (Hs.cut 2 : Int) _ HC.out).mono ?_
          rintro e w1 ⟨rfl, hbb⟩
          have HS1 := Lib.hid (HS.out.later hbb)
          have hcO := cell_of_one HS1.out.co
          have hcN := cell_of_one HS1.out.cn
          have hcW := cell_of_one HS1.out.cw
          clear hbb
          unfold ptr at hcN
          go_wp2_with fail
          refine (next_calls w0 X old w1 A c p bad HS1.out).mono ?_
          rintro e w2 ⟨A2, c2, rfl, hs2⟩
          have HS2 := Lib.hid hs2
          clear hs2
          go_wp2
          go_ret2
          exact ⟨A2, c2, by rw [Hs.walk_all]; rfl, by rw [Hs.walk_all]; exact HS2.out⟩
    · have hn2 : 2 ≤ n := by omega
      have hi2 : (2 : Int) ≤ (n : Int) := by omega
      have hb1 : ((m : Int) == (n : Int)) = false := beq_eq_false_iff_ne.2 (by omega)
      have hlt := Hs.cut_lt n hn2
      have HC := Lib.hid (F.cut_some n hn2 (by omega))
      by_cases hk : m ≤ Hs.cut n
      · have hki : (m : Int) ≤ (Hs.cut n : Int) := by omega
        unfold ptr
        go_enter Try.func47, Try.ntmps47
        go_wp2_with fail
        refine (F.hash_cut.calls (n : Int) (Hs.cut n : Int) _ HC.out).mono ?_
        rintro e w1 ⟨rfl, hbb⟩
        have HS1 := Lib.hid (HS.out.later hbb)
        have hcO := cell_of_one HS1.out.co
        have hcN := cell_of_one HS1.out.cn
        have hcW := cell_of_one HS1.out.cw
        clear hbb
        unfold ptr at hcW hcN
        go_wp2_with fail
        refine (IH.out (Hs.cut n) hlt m own p bad w1 A c h1 hk (by omega) HP.out HS1.out).mono ?_
        rintro e w2 ⟨A2, c2, rfl, hs2⟩
        obtain ⟨q, hq⟩ : ∃ q, q = Hs.walk old m (Hs.cut n) own p := ⟨_, rfl⟩
        rw [← hq] at hs2
        have hsm := small_walk old (Hs.cut n) m own p HO.out HP.out
        rw [← hq] at hsm ⊢
        have HQ := Lib.hid hq
        have HSM := Lib.hid hsm
        have HS2 := Lib.hid hs2
        clear hq hsm hs2
        obtain ⟨qa, qb, ql, qx⟩ := q
        have hcN2 := cell_of_one HS2.out.cn
        unfold ptr at hcN2
        clear hcO hcN hcW
        dsimp only
        go_wp2_with fail
        refine (next_calls w0 X old w2 A2 c2 ql (bad || qx) HS2.out).mono ?_
        rintro e w3 ⟨A3, c3, rfl, hs3⟩
        have HS3 := Lib.hid hs3
        clear hs3 hcN2
        go_wp2_with fail
        refine (F.hash_Node.calls _ _ _ _ (node_small qb (Hs.next ql).1 HSM.out.2.1 (small_next ql HSM.out.2.2).1)).mono ?_
        rintro e w4 ⟨rfl, hb4⟩
        have HS4 := Lib.hid (HS3.out.later hb4)
        clear hb4
        go_wp2
        go_ret2
        refine ⟨A3, c3, ?_, ?_⟩
        · rw [Hs.walk_left old m n own p hm hn2 hk, ← HQ.out]
          rfl
        · rw [Hs.walk_left old m n own p hm hn2 hk, ← HQ.out, ← Bool.or_assoc]
          exact HS4.out
      · have hki : ¬ (m : Int) ≤ (Hs.cut n : Int) := by omega
        unfold ptr
        go_enter Try.func47, Try.ntmps47
        go_wp2_with fail
        refine (F.hash_cut.calls (n : Int) (Hs.cut n : Int) _ HC.out).mono ?_
        rintro e w1 ⟨rfl, hbb⟩
        have HS1 := Lib.hid (HS.out.later hbb)
        have hcO := cell_of_one HS1.out.co
        have hcN := cell_of_one HS1.out.cn
        have hcW := cell_of_one HS1.out.cw
        clear hbb
        unfold ptr at hcW hcN
        have ha1 : (m : Int) - (Hs.cut n : Int) = ((m - Hs.cut n : Nat) : Int) := by omega
        have ha2 : (n : Int) - (Hs.cut n : Int) = ((n - Hs.cut n : Nat) : Int) := by omega
        have hp1 := Hs.cut_pos n
        go_wp2_with fail
        clear ha1 ha2
        refine (IH.out (n - Hs.cut n) (by omega) (m - Hs.cut n) false p bad w1 A c (by omega) (by omega) (by omega) HP.out HS1.out).mono ?_
        rintro e w2 ⟨A2, c2, rfl, hs2⟩
        obtain ⟨q, hq⟩ : ∃ q, q = Hs.walk old (m - Hs.cut n) (n - Hs.cut n) false p := ⟨_, rfl⟩
        rw [← hq] at hs2
        have hsm := small_walk old (n - Hs.cut n) (m - Hs.cut n) false p HO.out HP.out
        rw [← hq] at hsm ⊢
        have HQ := Lib.hid hq
        have HSM := Lib.hid hsm
        have HS2 := Lib.hid hs2
        clear hq hsm hs2
        obtain ⟨qa, qb, ql, qx⟩ := q
        have hcN2 := cell_of_one HS2.out.cn
        unfold ptr at hcN2
        clear hcO hcN hcW
        dsimp only
        go_wp2_with fail
        refine (next_calls w0 X old w2 A2 c2 ql (bad || qx) HS2.out).mono ?_
        rintro e w3 ⟨A3, c3, rfl, hs3⟩
        have HS3 := Lib.hid hs3
        clear hs3 hcN2
        go_wp2_with fail
        refine (F.hash_Node.calls _ _ _ _ (node_small (Hs.next ql).1 qa (small_next ql HSM.out.2.2).1 HSM.out.1)).mono ?_
        rintro e w4 ⟨rfl, hb4⟩
        have HS4 := Lib.hid (HS3.out.later hb4)
        clear hb4
        go_wp2_with fail
        refine (F.hash_Node.calls _ _ _ _ (node_small (Hs.next ql).1 qb (small_next ql HSM.out.2.2).1 HSM.out.2.1)).mono ?_
        rintro e w5 ⟨rfl, hb5⟩
        have HS5 := Lib.hid (HS4.out.later hb5)
        clear hb5
        go_wp2
        go_ret2
        refine ⟨A3, c3, ?_, ?_⟩
        · rw [Hs.walk_right old m n own p hm hn2 (by omega), ← HQ.out]
          rfl
        · rw [Hs.walk_right old m n own p hm hn2 (by omega), ← HQ.out, ← Bool.or_assoc]
          exact HS5.out
end Go.Proofs.Ytkbbdbnjplcjdaa
end
