-- JOINED BY A PROGRAM OF THIS PLACE (wip/tools/pack.py) out of: HsRefProg RefCollide HsColl HsLeaves
import Derived.Lib.AtoiErrMem
import Derived.Lib.ConvBytes
import Derived.Test.YtkbbdbnjplcjdaaC3
import Derived.Test.YtkbbdbnjplcjdaaC4
import Derived.Test.YtkbbdbnjplcjdaaC5
import Derived.Test.YtkbbdbnjplcjdaaC9
import Derived.Test.YtkbbdbnjplcjdaaC15
import Derived.Test.YtkbbdbnjplcjdaaC16
section
/-
  The document's Root, Path, Proof, Sides, Climb, CheckPath, as the plain text Hs has them.
-/
namespace Go.Proofs.Ytkbbdbnjplcjdaa.F
open Go.RowKit Go.Proofs.Ytkbbdbnjplcjdaa Go.Proofs.YtkbbdbnjplcjdaaW.PrintWords Go.Proofs.YtkbbdbnjplcjdaaW.PrintLast Go.Proofs.YtkbbdbnjplcjdaaW.PrintMore
set_option linter.unusedVariables false
set_option linter.unusedSimpArgs false
theorem rnode_sm (a b : ByteArray) (ha : small a) (hb : small b) : sawyerref15_Node.f a b = some (Hs.node a b) := rnode_some a b (by unfold small at ha hb; omega)
theorem rsides_from (n : Nat) : ∀ (e i : Nat), i < n → n ≤ 2 ^ e → e ≤ 60 → Ev (fun k => sawyerref15_Sides.f k (i : Int) (n : Int)) (Hs.sides i n) := by
  induction n using Nat.strongRecOn with
  | ind n ih =>
    intro e i hi he he6
    have h60 : (2 : Nat) ^ e ≤ 2 ^ 60 := Nat.pow_le_pow_right (by omega) he6
    have hn : n ≤ 1152921504606846976 := Nat.le_trans he h60
    have hlen := sides_60 i n hn
    by_cases h2 : 2 ≤ n
    · have hc := Hs.cut_lt n h2
      have hp := Hs.cut_pos n
      have e0 := rcut_some n h2 (by omega)
      cases e with
      | zero => simp at he; omega
      | succ e =>
        obtain ⟨he1, he2⟩ := cut_half n e h2 he
        by_cases hk : i < Hs.cut n
        · have e1 := ih (Hs.cut n) hc e i hk he1 (by omega)
          rw [Hs.sides_left i n h2 hk, List.length_append, List.length_singleton] at hlen
          rw [Hs.sides_left i n h2 hk]
          refine Ev.step (fun k => ?_) (Ev.bind (f := fun k t425 => (if (i : Int) < t425 then ((sawyerref15_Sides.f k (i : Int) t425).bind fun t426 => (if t426.length < 140737488355328 then (some (t426 ++ [true])) else (none))) else ((sawyerref15_Sides.f k (wrap64 ((i : Int) - t425)) (wrap64 ((n : Int) - t425))).bind fun t432 => (if t432.length < 140737488355328 then (some (t432 ++ [false])) else (none))))) e0 (Ev.congr (f := fun k => (sawyerref15_Sides.f k (i : Int) (Hs.cut n : Int)).bind fun t426 => (if t426.length < 140737488355328 then (some (t426 ++ [true])) else (none))) (fun k => ?_) (Ev.bind (f := fun _ t426 => (if t426.length < 140737488355328 then (some (t426 ++ [true])) else (none))) e1 (Ev.congr (fun _ => ?_) (Ev.now _)))))
          · simp only [sawyerref15_Sides.f]
            rw [if_neg (by omega)]
          · rw [if_pos (by omega)]
          · rw [if_pos (by omega)]
        · have e1 := ih (n - Hs.cut n) (by omega) e (i - Hs.cut n) (by omega) he2 (by omega)
          rw [Hs.sides_right i n h2 (by omega), List.length_append, List.length_singleton] at hlen
          rw [Hs.sides_right i n h2 (by omega)]
          refine Ev.step (fun k => ?_) (Ev.bind (f := fun k t425 => (if (i : Int) < t425 then ((sawyerref15_Sides.f k (i : Int) t425).bind fun t426 => (if t426.length < 140737488355328 then (some (t426 ++ [true])) else (none))) else ((sawyerref15_Sides.f k (wrap64 ((i : Int) - t425)) (wrap64 ((n : Int) - t425))).bind fun t432 => (if t432.length < 140737488355328 then (some (t432 ++ [false])) else (none))))) e0 (Ev.congr (f := fun k => (sawyerref15_Sides.f k ((i - Hs.cut n : Nat) : Int) ((n - Hs.cut n : Nat) : Int)).bind fun t426 => (if t426.length < 140737488355328 then (some (t426 ++ [false])) else (none))) (fun k => ?_) (Ev.bind (f := fun _ t426 => (if t426.length < 140737488355328 then (some (t426 ++ [false])) else (none))) e1 (Ev.congr (fun _ => ?_) (Ev.now _)))))
          · simp only [sawyerref15_Sides.f]
            rw [if_neg (by omega)]
          · rw [if_neg (by omega), show wrap64 ((i : Int) - (Hs.cut n : Int)) = ((i - Hs.cut n : Nat) : Int) by unfold wrap64; omega, show wrap64 ((n : Int) - (Hs.cut n : Int)) = ((n - Hs.cut n : Nat) : Int) by unfold wrap64; omega]
          · rw [if_pos (by omega)]
    · rw [Hs.sides_few i n (by omega)]
      refine Ev.step (f := fun _ => some []) (fun k => ?_) (Ev.now _)
      simp only [sawyerref15_Sides.f]
      rw [if_pos (by omega)]
theorem rsides_ev (i n : Nat) (hi : i < n) (hn : n ≤ 1152921504606846976) : Ev (fun k => sawyerref15_Sides.f k (i : Int) (n : Int)) (Hs.sides i n) := rsides_from n 60 i hi hn (by omega)
/-- the leaf, and each node's hash, one behind the other -/
def climbs (x : ByteArray) : List Bool → List ByteArray → List ByteArray
  | [], _ => []
  | b :: bs, ps => Sha.sum (Hs.step b x (ps.headD ByteArray.empty)) :: climbs (Sha.sum (Hs.step b x (ps.headD ByteArray.empty))) bs ps.tail
theorem climbs_length (bs : List Bool) : ∀ x ps, (climbs x bs ps).length = bs.length := by
  induction bs with
  | nil => intro x ps; rfl
  | cons b bs ih => intro x ps; simp [climbs, ih]
theorem climbs_last (bs : List Bool) : ∀ (x : ByteArray) (ps : List ByteArray), (x :: climbs x bs ps).getD bs.length ByteArray.empty = Hs.climb x bs ps := by
  induction bs with
  | nil => intro x ps; rfl
  | cons b bs ih =>
    intro x ps
    have := ih (Sha.sum (Hs.step b x (ps.headD ByteArray.empty))) ps.tail
    simpa [climbs, Hs.climb] using this
theorem step_node (b : Bool) (x p : ByteArray) : Sha.sum (Hs.step b x p) = if b = true then Hs.node x p else Hs.node p x := by
  cases b <;> rfl
theorem rclimb_from (bs : List Bool) (ps : List ByteArray) (hl : ps.length = bs.length) (hb : bs.length ≤ 1000) (hs : smalls ps) (d : Nat) : ∀ (i : Nat) (x : ByteArray) (acc : List ByteArray), i + d = bs.length → small x → acc.length = i →
    Ev (fun k => sawyerref15_Climb.l0 k bs ps (acc ++ [x]) (i : Int)) (acc ++ x :: climbs x (bs.drop i) (ps.drop i)) := by
  induction d with
  | zero =>
    intro i x acc hi hx ha
    rw [List.drop_eq_nil_of_le (by omega)]
    refine Ev.step (f := fun _ => some _) (fun k => ?_) (Ev.now _)
    simp only [sawyerref15_Climb.l0]
    rw [if_neg (by omega)]
    rfl
  | succ d ih =>
    intro i x acc hi hx ha
    have h1 : i < bs.length := by omega
    have h2 : i < ps.length := by omega
    have hp : small ps[i] := hs _ (List.getElem_mem h2)
    have e := ih (i + 1) (Sha.sum (Hs.step bs[i] x ps[i])) (acc ++ [x]) (by omega) (small_sum _) (by simp [ha])
    rw [List.drop_eq_getElem_cons h1, List.drop_eq_getElem_cons h2]
    simp only [climbs, List.headD_cons, List.tail_cons]
    refine (congrArg (Ev _) (List.append_cons acc x _)).mpr ?_
    refine Ev.step (fun k => ?_) e
    have hal : ((acc ++ [x]).length : Int) = (i : Int) + 1 := by rw [List.length_append, List.length_singleton, ha]; omega
    have hx0 : rdOf ByteArray.empty (acc ++ [x]) (i : Int) = x := by
      rw [rdOf_n, List.getD_eq_getElem?_getD, List.getElem?_append_right (by omega), ha, Nat.sub_self]
      rfl
    have hw : wrap64 ((i : Int) + 1) = ((i + 1 : Nat) : Int) := by unfold wrap64; omega
    have hpx : rdOf ByteArray.empty ps (i : Int) = ps[i] := by rw [rdOf_n, List.getD_eq_getElem?_getD, List.getElem?_eq_getElem h2, Option.getD_some]
    have hbx : rdOf false bs (i : Int) = bs[i] := by rw [rdOf_b, List.getD_eq_getElem?_getD, List.getElem?_eq_getElem h1, Option.getD_some]
    simp only [sawyerref15_Climb.l0]
    rw [if_pos (by omega), if_pos (by omega), if_pos (by omega), hx0, hpx, hbx, step_node]
    cases hb' : bs[i] with
    | true => rw [if_pos rfl, if_pos (by omega), rnode_sm _ _ hx hp, Option.bind_some, if_pos (by rw [List.length_append, List.length_singleton]; omega), hw, if_pos rfl]
    | false => rw [if_neg (by simp), if_pos (by omega), rnode_sm _ _ hp hx, Option.bind_some, if_pos (by rw [List.length_append, List.length_singleton]; omega), hw, if_neg (by simp)]
theorem rclimb_ev (x : ByteArray) (bs : List Bool) (ps : List ByteArray) (hl : ps.length = bs.length) (hb : bs.length ≤ 1000) (hs : smalls ps) (hx : small x) : Ev (fun k => sawyerref15_Climb.f k x bs ps) (x :: climbs x bs ps) := by
  have := rclimb_from bs ps hl hb hs bs.length 0 x [] (by omega) hx rfl
  simpa [sawyerref15_Climb.f] using this
end Go.Proofs.Ytkbbdbnjplcjdaa.F
end
section
/-
  sawyerref15.Collide: what it answers is what the plain text collide does.
-/
namespace Go.Proofs.Ytkbbdbnjplcjdaa
open Go.RowKit Go.Proofs.YtkbbdbnjplcjdaaW.PrintWords Go.Proofs.YtkbbdbnjplcjdaaW.PrintLast Go.Proofs.YtkbbdbnjplcjdaaW.PrintMore
set_option linter.unusedVariables false
set_option linter.unusedSimpArgs false
/-- a row of bytes that can only be read -/
def RB (w : World) (v : Value) (xs : List Int) : Prop := ∃ A c, v = .slice A xs.length c ∧ xs.length ≤ c ∧ Kd.C (Kd.int .u8) w A xs.length xs
theorem RB.nil (w : World) : RB w (.slice none 0 0) [] := ⟨none, 0, rfl, Nat.le_refl _, (Kd.R_reads' (Kd.R_nil (Kd.int .u8) 5 w 0 (fun _ => True))).2.2⟩
theorem RB.below {w w1 : World} {v : Value} {xs : List Int} (h : RB w v xs) (hb : Below w.heap.size w w1) : RB w1 v xs := by
  obtain ⟨A, c, rfl, hl, hc⟩ := h
  exact ⟨A, c, rfl, hl, Kd.C_below hc hb⟩
theorem rb_string {w : World} {v : Value} {xs : List Int} (h : RB w v xs) : (convert 23 9 v).run Try.prog w = .ok (.string (strOfNums xs)) w := by
  obtain ⟨A, c, rfl, hl, hc⟩ := h
  exact Kd.C_string Try.underlying23 Try.underlying5 Try.underlying9 hc
theorem bytesOf_app (a b : ByteArray) : bytesOf (a ++ b) = bytesOf a ++ bytesOf b := by
  simp [bytesOf, ByteArray.data_append]
theorem bytesOf_inj {a b : ByteArray} (h : bytesOf a = bytesOf b) : a = b := by
  have := (List.map_inj_right (f := fun b : UInt8 => (b.toNat : Int)) (fun x y e => UInt8.toNat_inj.1 (Int.ofNat.inj e))).1 h
  cases a
  cases b
  congr 1
  exact Array.toList_inj.1 this
theorem rd_conv0 (W : World) (s : ByteArray) (hs : s.size ≤ 9223372036854775807) : Kd.C (Kd.int .u8) (Lib.bytesWorld W 5 s) (some ⟨W.heap.size, 0, none⟩) s.size (bytesOf s) := by
  refine Kd.C_of_reads (d := (0 : Int)) (h1 := fun _ => rfl) ⟨bytesOf_length s, hs, fun _ => ⟨_, rfl, fun j hj => ?_⟩⟩
  rw [add_plain, Lib.bytesWorld_cell _ _ _ _ (by simpa using hj)]
  simp [bytesOf, hj]
theorem rd_conv1 (W : World) (s : ByteArray) (hs : s.size ≤ 9223372036854775807) : RB (Lib.bytesWorld W 5 s) (.slice (some ⟨W.heap.size, 0, none⟩) s.size (grownCap W s.size 0 5)) (bytesOf s) := by
  have hl : (bytesOf s).length = s.size := bytesOf_length s
  refine ⟨some ⟨W.heap.size, 0, none⟩, grownCap W s.size 0 5, by rw [hl], by rw [hl]; exact grownCap_ge _ _ _ _, ?_⟩
  rw [hl]
  exact rd_conv0 W s hs
theorem conv_ok (W : World) (t : ByteArray) (ht : t.size ≤ 9223372036854775807) : ∃ V W', (convert 9 23 (.string t)).run Try.prog W = .ok V W' ∧ RB W' V (bytesOf t) ∧ Below W.heap.size W W' :=
  ⟨_, _, Lib.run_convert_string_bytes (P := Try.prog) W 9 23 5 t Try.underlying9 Try.underlying23 Try.underlying5, rd_conv1 W t ht, Lib.bytesWorld_below W 5 t⟩
theorem step_t (x p : ByteArray) : Hs.step true x p = 1 :: bytesOf (x ++ p) := rfl
theorem step_f (x p : ByteArray) : Hs.step false x p = 1 :: bytesOf (p ++ x) := rfl
theorem one_app (l : ByteArray) : bytesOf (⟨#[1]⟩ ++ l) = 1 :: bytesOf l := by rw [bytesOf_app]; rfl
namespace F
theorem step_inj (b : Bool) (x y p q : ByteArray) (hx : x.size = 32) (hy : y.size = 32) (hp : p.size = 32) (hq : q.size = 32) (h : Hs.step b x p = Hs.step b y q) : x = y := by
  have hl : ∀ z : ByteArray, z.size = 32 → (bytesOf z).length = 32 := fun z hz => by rw [bytesOf_length, hz]
  cases b with
  | true =>
    simp only [Hs.step, if_true, Hs.joined, bytesOf_app] at h
    exact bytesOf_inj (List.append_inj (List.cons.inj h).2 (by rw [hl x hx, hl y hy])).1
  | false =>
    simp only [Hs.step, Bool.false_eq_true, if_false, Hs.joined, bytesOf_app] at h
    exact bytesOf_inj (List.append_inj (List.cons.inj h).2 (by rw [hl p hp, hl q hq])).2
theorem climbs_at (bs : List Bool) : ∀ (x : ByteArray) (ps : List ByteArray) (i : Nat), i < bs.length → ps.length = bs.length →
    (Hs.inputs x bs ps).getD i [] = Hs.step (bs.getD i false) ((x :: climbs x bs ps).getD i ByteArray.empty) (ps.getD i ByteArray.empty) ∧ (x :: climbs x bs ps).getD (i + 1) ByteArray.empty = Sha.sum ((Hs.inputs x bs ps).getD i []) := by
  induction bs with
  | nil => intro x ps i hi; simp at hi
  | cons b bs ih =>
    intro x ps i hi hl
    cases ps with
    | nil => simp at hl
    | cons p ps =>
      cases i with
      | zero => simp [Hs.inputs, climbs]
      | succ i =>
        have := ih (Sha.sum (Hs.step b x p)) ps i (by simpa using hi) (by simpa using hl)
        simpa [Hs.inputs, climbs] using this
theorem climbs_32 (x : ByteArray) (bs : List Bool) (ps : List ByteArray) (hx : x.size = 32) (hl : ps.length = bs.length) (i : Nat) (hi : i ≤ bs.length) : ((x :: climbs x bs ps).getD i ByteArray.empty).size = 32 := by
  cases i with
  | zero => simpa using hx
  | succ i => rw [(climbs_at bs x ps i (by omega) hl).2, Sha.sum_size]
end F
def sawyerref15_Collide.f (a0 a1 : Int) (a2 : ByteArray) (l3 : List ByteArray) (a4 : ByteArray) (l5 : List ByteArray) : Option ((List Int) × (List Int) × Bool) := some (collide a0 a1 a2 l3 a4 l5)
theorem placed_neg (a0 a1 : Int) : F.placed a0 a1 = true ↔ (¬ a1 < 1 ∧ ¬ a1 > 1099511627776 ∧ ¬ a0 < 0 ∧ ¬ a0 ≥ a1) := by
  unfold F.placed
  simp only [Bool.and_eq_true, decide_eq_true_eq]
  omega
set_option maxHeartbeats 8000000 in
set_option maxRecDepth 100000 in
theorem rcollide_early (a0 : Int) (a1 : Int) (a2 : ByteArray) (A3 : Option Addr) (c3 : Nat) (l3 : List ByteArray) (a4 : ByteArray) (A5 : Option Addr) (c5 : Nat) (l5 : List ByteArray) (w : World) (hp : F.placed a0 a1 = false ∨ a2 = a4) :
    Calls Try.prog 32 #[.int .i64 a0, .int .i64 a1, .string a2, .slice A3 l3.length c3, .string a4, .slice A5 l5.length c5] w fun e w' => e = .returned (.tuple #[.slice none 0 0, .slice none 0 0, .bool false]) ∧ Below w.heap.size w w' := by
  by_cases h1 : a1 < 1
  · clear hp
    go_enter Try.func32, Try.ntmps32
    go_wp2
    go_ret3
    exact ⟨rfl, Below.refl _ _⟩
  · by_cases h2 : a1 > 1099511627776
    · clear hp
      go_enter Try.func32, Try.ntmps32
      go_wp2
      go_ret3
      exact ⟨rfl, Below.refl _ _⟩
    · by_cases h3 : a0 < 0
      · clear hp
        go_enter Try.func32, Try.ntmps32
        go_wp2
        go_ret3
        exact ⟨rfl, Below.refl _ _⟩
      · by_cases h4 : a0 ≥ a1
        · clear hp
          go_enter Try.func32, Try.ntmps32
          go_wp2
          go_ret3
          exact ⟨rfl, Below.refl _ _⟩
        · have e : a2 = a4 := by
            rcases hp with hp | hp
            · exact absurd ((placed_neg a0 a1).2 ⟨h1, h2, h3, h4⟩) (by rw [hp]; simp)
            · exact hp
          have e1 : (a2.toList == a4.toList) = true := by rw [e]; exact beq_self_eq_true _
          clear e hp
          go_enter Try.func32, Try.ntmps32
          go_wp2
          go_ret3
          exact ⟨rfl, Below.refl _ _⟩
set_option maxHeartbeats 16000000 in
set_option maxRecDepth 100000 in
theorem sawyerref15_Collide.calls (a0 : Int) (a1 : Int) (a2 : ByteArray) (A3 : Option Addr) (c3 : Nat) (l3 : List ByteArray) (a4 : ByteArray) (A5 : Option Addr) (c5 : Nat) (l5 : List ByteArray) (r1 : List Int) (r2 : List Int) (r3 : Bool) (w : World) (hr3 : Kd.C Kd.string w A3 l3.length l3) (hc3 : l3.length ≤ c3) (hr5 : Kd.C Kd.string w A5 l5.length l5) (hc5 : l5.length ≤ c5) (h : sawyerref15_Collide.f a0 a1 a2 l3 a4 l5 = some (r1, r2, r3)) :
    Calls Try.prog 32 #[.int .i64 a0, .int .i64 a1, .string a2, .slice A3 l3.length c3, .string a4, .slice A5 l5.length c5] w fun e w' => ∃ v0_ v1_ : Value, e = .returned (.tuple #[v0_, v1_, .bool r3]) ∧ RB w' v0_ r1 ∧ RB w' v1_ r2 ∧ Below w.heap.size w w' := by
  have hq0 := Option.some.inj h
  by_cases hearly : F.placed a0 a1 = false ∨ a2 = a4
  · obtain ⟨rfl, rfl, rfl⟩ := coll_nil hq0 (by unfold collide; rw [if_pos hearly])
    exact (rcollide_early a0 a1 a2 A3 c3 l3 a4 A5 c5 l5 w hearly).mono fun e w' ⟨he, hb⟩ => ⟨_, _, he, RB.nil _, RB.nil _, hb⟩
  have hp : F.placed a0 a1 = true := by
    cases hp : F.placed a0 a1 with
    | true => rfl
    | false => exact absurd (.inl hp) hearly
  have hab : a2 ≠ a4 := fun e => hearly (.inr e)
  clear hearly
  have HR3 := Lib.hid hr3
  have HC3 := Lib.hid hc3
  have HR5 := Lib.hid hr5
  have HC5 := Lib.hid hc5
  have HQ := Lib.hid hq0
  clear hr3 hc3 hr5 hc5 h hq0
  obtain ⟨p1, p2, p3, p4⟩ := (placed_neg a0 a1).1 hp
  have e1 : (a2.toList == a4.toList) = false := beq_eq_false_iff_ne.2 (fun e => hab (toList_inj e))
  obtain ⟨i, n, rfl, rfl, hi, hn⟩ := F.placed_nat hp
  obtain ⟨k1, hk1⟩ := (F.rsides_ev i n hi (by omega)).rounds
  obtain ⟨s, hs⟩ : ∃ s, s = Hs.sides i n := ⟨_, rfl⟩
  have hsl : s.length ≤ 60 := by rw [hs]; exact F.sides_60 i n (by omega)
  rw [← hs] at hk1
  have HK1 := Lib.hid hk1
  have HS := Lib.hid hs
  have HP := Lib.hid hp
  have HAB := Lib.hid hab
  clear hk1 hs hp hab hi hn
  go_enter Try.func32, Try.ntmps32
  go_wp2_with fail
  refine (F.sawyerref15_Sides.calls k1 (i : Int) (n : Int) s _ HK1.out).mono ?_
  rintro e w2 ⟨v15, rfl, ho2, hb2⟩
  have HB2 := Lib.hid hb2
  obtain ⟨A15, c15, rfl⟩ := Kd.R_slice ho2
  have HO2 := Lib.hid ho2
  clear ho2 hb2
  have nilq : l3.length ≠ s.length ∨ l5.length ≠ s.length ∨ wholeB l3 = false ∨ wholeB l5 = false ∨ wholeB [a2, a4] = false → r1 = [] ∧ r2 = [] ∧ r3 = false := by
    intro hh
    refine coll_nil HQ.out ?_
    unfold collide
    rw [if_neg (by rintro (h | h); exact absurd (HP.out.symm.trans h) (by simp); exact HAB.out h), Int.toNat_natCast, Int.toNat_natCast, ← HS.out, if_pos hh]
  have NQ := Lib.hid nilq
  clear nilq p1 p2 p3 p4 e1
  by_cases hl3 : l3.length = s.length
  · have f1 : ((l3.length : Int) != (s.length : Int)) = false := bne_eq_false_iff_eq.mpr (by omega)
    have L3 := Lib.hid hl3
    by_cases hl5 : l5.length = s.length
    · have f2 : ((l5.length : Int) != (s.length : Int)) = false := bne_eq_false_iff_eq.mpr (by omega)
      have L5 := Lib.hid hl5
      obtain ⟨kw3, hkw3⟩ := (F.rwhole_some l3 (by omega)).rounds
      obtain ⟨kw5, hkw5⟩ := (F.rwhole_some l5 (by omega)).rounds
      obtain ⟨kwl, hkwl⟩ := (F.rwhole_some [a2, a4] (by simp)).rounds
      have KW3 := Lib.hid hkw3
      have KW5 := Lib.hid hkw5
      have KWL := Lib.hid hkwl
      clear hkw3 hkw5 hkwl hl3 hl5
      go_wp2_with fail
      refine (F.sawyerref15_whole.calls kw3 A3 c3 l3 (wholeB l3) _ (Kd.C_below HR3.out HB2.out) HC3.out KW3.out).mono ?_
      rintro e w3 ⟨rfl, hd3⟩
      have HO3 := Lib.hid (Kd.R_below HO2.out hd3.below)
      have HB3 := Lib.hid (below_then HB2.out HB2.out.size hd3.below)
      clear hd3 HO2 HB2
      cases hw3 : wholeB l3 with
      | false =>
        obtain ⟨rfl, rfl, rfl⟩ := NQ.out (.inr (.inr (.inl hw3)))
        go_wp2
        go_ret3
        exact ⟨_, _, rfl, RB.nil _, RB.nil _, HB3.out⟩
      | true =>
        have W3 := Lib.hid hw3
        clear hw3
        go_wp2_with fail
        refine (F.sawyerref15_whole.calls kw5 A5 c5 l5 (wholeB l5) _ (Kd.C_below HR5.out HB3.out) HC5.out KW5.out).mono ?_
        rintro e w4 ⟨rfl, hd4⟩
        have HO4 := Lib.hid (Kd.R_below HO3.out hd4.below)
        have HB4 := Lib.hid (below_then HB3.out HB3.out.size hd4.below)
        clear hd4 HO3 HB3
        cases hw5 : wholeB l5 with
        | false =>
          obtain ⟨rfl, rfl, rfl⟩ := NQ.out (.inr (.inr (.inr (.inl hw5))))
          go_wp2
          go_ret3
          exact ⟨_, _, rfl, RB.nil _, RB.nil _, HB4.out⟩
        | true =>
          have W5 := Lib.hid hw5
          clear hw5
          go_wp2_with (first | ((with_reducible refine gate_dst (N := 69) rfl ?_); (try (refine gate_guard (by rfl) ?_; dsimp only)); refine Kd.R_lit Kd.string _ 9 ?hg (N := 69) ?hd (xs := ([a2, a4] : List ByteArray)) (inner := [.string a2, .string a4]) (ok := fun _ => True) (okp := fun _ => True) ?hr ?hp (fun _ hk => hk) trivial (Below.refl _ _) (Nat.le_refl _) (by simp) ?_; (case hd => rfl); (case hg => rfl); (case hr => first | (go_simp; done) | (go_simp; rfl)); (case hp => exact (Reps.one (show Kd.M Kd.string _ _ _ a2 [.string a2] from rfl) (Reps.one (show Kd.M Kd.string _ _ _ a4 [.string a4] from rfl) (Reps.none _ _)))); intro v2 w5 ho5 hb5 hg_ hnew_; clear hg_ hnew_; obtain ⟨Al, cl, rfl⟩ := Kd.R_slice ho5; have HL5 := Lib.hid ho5; have HB5 := Lib.hid hb5; clear ho5 hb5) | fail)
          refine (F.sawyerref15_whole.calls kwl Al cl [a2, a4] (wholeB [a2, a4]) _ (Kd.R_reads' HL5.out).2.2 (Kd.R_reads' HL5.out).2.1 KWL.out).mono ?_
          rintro e w6 ⟨rfl, hd6⟩
          have HO6 := Lib.hid (Kd.R_below (Kd.R_below HO4.out HB5.out) hd6.below)
          have HB6 := Lib.hid (below_then (below_then HB4.out HB4.out.size HB5.out) (Nat.le_trans HB4.out.size HB5.out.size) hd6.below)
          clear hd6 HO4 HB4 HL5 HB5
          cases hwl : wholeB [a2, a4] with
          | false =>
            obtain ⟨rfl, rfl, rfl⟩ := NQ.out (.inr (.inr (.inr (.inr hwl))))
            go_wp2
            go_ret3
            exact ⟨_, _, rfl, RB.nil _, RB.nil _, HB6.out⟩
          | true =>
            have WL := Lib.hid hwl
            clear hwl
            have z2 : a2.size = 32 := by have h := WL.out; simp [wholeB] at h; exact h.1
            have z4 : a4.size = 32 := by have h := WL.out; simp [wholeB] at h; exact h.2
            obtain ⟨kx, hkx⟩ := (F.rclimb_ev a2 s l3 (by rw [L3.out]) (by omega) (wholeB_small _ W3.out) (F.small_32 z2)).rounds
            obtain ⟨ky, hky⟩ := (F.rclimb_ev a4 s l5 (by rw [L5.out]) (by omega) (wholeB_small _ W5.out) (F.small_32 z4)).rounds
            have hq : (r1, r2, r3) = if Hs.climb a2 s l3 = Hs.climb a4 s l5 then lastDiff (Hs.inputs a2 s l3) (Hs.inputs a4 s l5) s.length else ([], [], false) := by
              rw [← HQ.out]
              unfold collide
              rw [if_neg (by rintro (h | h); exact absurd (HP.out.symm.trans h) (by simp); exact HAB.out h), Int.toNat_natCast, Int.toNat_natCast, ← HS.out, if_neg (by rw [L3.out, L5.out, W3.out, W5.out, WL.out]; simp)]
            have p3 : ∀ j, j < s.length → (l3.getD j ByteArray.empty).size = 32 := fun j hj => by
              have h := W3.out
              unfold wholeB at h
              rw [List.all_eq_true] at h
              have hj2 : j < l3.length := by rw [L3.out]; exact hj
              rw [List.getD_eq_getElem?_getD, List.getElem?_eq_getElem hj2]
              simpa using h _ (List.getElem_mem hj2)
            have p5 : ∀ j, j < s.length → (l5.getD j ByteArray.empty).size = 32 := fun j hj => by
              have h := W5.out
              unfold wholeB at h
              rw [List.all_eq_true] at h
              have hj2 : j < l5.length := by rw [L5.out]; exact hj
              rw [List.getD_eq_getElem?_getD, List.getElem?_eq_getElem hj2]
              simpa using h _ (List.getElem_mem hj2)
            have fx : ∀ j, j < s.length → (Hs.inputs a2 s l3).getD j [] = Hs.step (s.getD j false) ((a2 :: F.climbs a2 s l3).getD j ByteArray.empty) (l3.getD j ByteArray.empty) := fun j hj => (F.climbs_at s a2 l3 j hj L3.out).1
            have fy : ∀ j, j < s.length → (Hs.inputs a4 s l5).getD j [] = Hs.step (s.getD j false) ((a4 :: F.climbs a4 s l5).getD j ByteArray.empty) (l5.getD j ByteArray.empty) := fun j hj => (F.climbs_at s a4 l5 j hj L5.out).1
            have zx := F.climbs_32 a2 s l3 z2 L3.out
            have zy := F.climbs_32 a4 s l5 z4 L5.out
            have fe : ∀ j, j < s.length → (Hs.inputs a2 s l3).getD j [] = (Hs.inputs a4 s l5).getD j [] → (a2 :: F.climbs a2 s l3).getD j ByteArray.empty = (a4 :: F.climbs a4 s l5).getD j ByteArray.empty := fun j hj e => by
              rw [fx j hj, fy j hj] at e
              exact F.step_inj _ _ _ _ _ (zx j (by omega)) (zy j (by omega)) (p3 j hj) (p5 j hj) e
            have f0 : (a2 :: F.climbs a2 s l3).getD 0 ByteArray.empty ≠ (a4 :: F.climbs a4 s l5).getD 0 ByteArray.empty := HAB.out
            have tx := F.climbs_last s a2 l3
            have ty := F.climbs_last s a4 l5
            have lx : (a2 :: F.climbs a2 s l3).length = s.length + 1 := by rw [List.length_cons, F.climbs_length]
            have ly : (a4 :: F.climbs a4 s l5).length = s.length + 1 := by rw [List.length_cons, F.climbs_length]
            rw [← tx, ← ty] at hq
            clear tx ty
            generalize Hs.inputs a2 s l3 = x at *
            generalize Hs.inputs a4 s l5 = y at *
            generalize a2 :: F.climbs a2 s l3 = X at *
            generalize a4 :: F.climbs a4 s l5 = Y at *
            have HQ2 := Lib.hid hq
            have KX := Lib.hid hkx
            have KY := Lib.hid hky
            have LX := Lib.hid lx
            have LY := Lib.hid ly
            have FX := Lib.hid fx
            have FY := Lib.hid fy
            have FE := Lib.hid fe
            have F0 := Lib.hid f0
            have ZX := Lib.hid zx
            have ZY := Lib.hid zy
            have P3 := Lib.hid p3
            have P5 := Lib.hid p5
            clear hq hkx hky lx ly fx fy fe f0 zx zy p3 p5 z2 z4
            go_wp2_with fail
            refine (F.sawyerref15_Climb.calls kx a2 A15 c15 s A3 c3 l3 X _ (Kd.R_reads' HO6.out).2.2 (Kd.R_reads' HO6.out).2.1 (Kd.C_below HR3.out HB6.out) HC3.out KX.out).mono ?_
            rintro e w7 ⟨v7, rfl, ho7, hb7⟩
            have HO7 := Lib.hid (Kd.R_below HO6.out hb7)
            have HB7 := Lib.hid (below_then HB6.out HB6.out.size hb7)
            have HX7 := Lib.hid ho7
            clear hb7 HO6 ho7
            go_wp2_with fail
            refine (F.sawyerref15_Climb.calls ky a4 A15 c15 s A5 c5 l5 Y _ (Kd.R_reads' HO7.out).2.2 (Kd.R_reads' HO7.out).2.1 (Kd.C_below HR5.out HB7.out) HC5.out KY.out).mono ?_
            rintro e w8 ⟨v8, rfl, ho8, hb8⟩
            have HB8 := Lib.hid (below_then HB7.out HB7.out.size hb8)
            have HO8 := Lib.hid (Kd.R_below HO7.out hb8)
            obtain ⟨Ax, cx, rfl⟩ := Kd.R_slice HX7.out
            obtain ⟨Ay, cy, rfl⟩ := Kd.R_slice ho8
            have CX8 := Lib.hid (Kd.C_below (Kd.R_reads' HX7.out).2.2 hb8)
            have CY8 := Lib.hid (Kd.R_reads' ho8).2.2
            have CS8 := Lib.hid (Kd.R_reads' HO8.out).2.2
            have CP8 := Lib.hid (Kd.C_below HR3.out HB8.out)
            have CQ8 := Lib.hid (Kd.C_below HR5.out HB8.out)
            clear hb8 HO7 HX7 ho8 HB7 HB6 HR3 HR5
            go_wp2_with fail
            go_loopw [18] (fun v wr => ∃ (j q : Nat), j ≤ s.length ∧ v = .int .i64 (j : Int) ∧ wr = w8.drewN q ∧ ((X.getD j ByteArray.empty = Y.getD j ByteArray.empty ∧ (r1, r2, r3) = lastDiff x y j) ∨ (X.getD j ByteArray.empty ≠ Y.getD j ByteArray.empty ∧ (r1, r2, r3) = ([], [], false)))) (fun v _ => (intOf v).toNat)
            case atStart =>
              refine ⟨s.length, 0, Nat.le_refl _, by go_num, rfl, ?_⟩
              have h := HQ2.out
              by_cases ht : X.getD s.length ByteArray.empty = Y.getD s.length ByteArray.empty
              · rw [if_pos ht] at h
                exact .inl ⟨ht, h⟩
              · rw [if_neg ht] at h
                exact .inr ⟨ht, h⟩
            case round =>
              obtain ⟨j, q, hj, rfl, rfl, hd⟩ := hrel
              have HBr := Lib.hid (below_then HB8.out HB8.out.size (Drawn0.mk ⟨q, rfl⟩ : Drawn0 w8 (w8.drewN q)).below)
              have CXr := Lib.hid (Kd.C_drewN CX8.out q)
              have CYr := Lib.hid (Kd.C_drewN CY8.out q)
              have CSr := Lib.hid (Kd.C_drewN CS8.out q)
              have CPr := Lib.hid (Kd.C_drewN CP8.out q)
              have CQr := Lib.hid (Kd.C_drewN CQ8.out q)
              generalize hW : w8.drewN q = W at *
              have HWq := Lib.hid hW.symm
              clear hW
              rcases hd with ⟨he, hd⟩ | ⟨he, hd⟩
              · cases j with
                | zero => exact absurd he F0.out
                | succ i =>
                  have HE := Lib.hid he
                  have HD := Lib.hid hd
                  clear he hd
                  obtain ⟨jj, hjj⟩ : ∃ jj : Int, jj = ((i + 1 : Nat) : Int) := ⟨_, rfl⟩
                  rw [← hjj]
                  have b0 : jj > 0 := by omega
                  have b0' : (0 : Int) < jj := by omega
                  have b1 : 0 ≤ jj := by omega
                  have b2 : jj < (X.length : Int) := by rw [LX.out]; omega
                  have b3 : jj < (Y.length : Int) := by rw [LY.out]; omega
                  obtain ⟨gx, ex, hcx⟩ := Kd.at_string CXr.out jj b1 b2
                  cases ex
                  obtain ⟨gy, ey, hcy⟩ := Kd.at_string CYr.out jj b1 b3
                  cases ey
                  have ee : (rdOf ByteArray.empty X jj).toList = (rdOf ByteArray.empty Y jj).toList := by
                    unfold rdOf
                    rw [hjj, Int.toNat_natCast, HE.out]
                  have e5 : ((rdOf ByteArray.empty X jj).toList == (rdOf ByteArray.empty Y jj).toList) = true := by rw [ee]; exact beq_self_eq_true _
                  have HJ := Lib.hid hjj
                  clear ee hjj
                  go_wp2_with fail
                  go_quiet (fail)
                  go_wp2
                  have CX1 := Lib.hid (Kd.C_drewN CXr.out nq)
                  have CY1 := Lib.hid (Kd.C_drewN CYr.out nq)
                  have CS1 := Lib.hid (Kd.C_drewN CSr.out nq)
                  have CP1 := Lib.hid (Kd.C_drewN CPr.out nq)
                  have CQ1 := Lib.hid (Kd.C_drewN CQr.out nq)
                  have HB1' := Lib.hid (below_then HBr.out HBr.out.size (Drawn0.mk ⟨nq, rfl⟩ : Drawn0 W (W.drewN nq)).below)
                  have HW1 : Hid (∃ q, W.drewN nq = w8.drewN q) := Lib.hid ⟨q + nq, by rw [HWq.out, World.drewN_drewN]⟩
                  clear hcx hcy e5 CXr CYr CSr CPr CQr HWq HBr b0 b0' b1 b2 b3
                  generalize W.drewN nq = W1 at *
                  clear nq
                  obtain ⟨ii, c0⟩ : ∃ ii : Int, ii = (i : Int) := ⟨_, rfl⟩
                  have hw : IntKind.i64.wrap (jj - 1) = ii := by
                    have := HJ.out
                    rw [i64_w]
                    unfold wrap64
                    omega
                  have hi0 : i < s.length := by omega
                  have c1 : 0 ≤ ii := by rw [c0]; omega
                  have c2 : ii < (X.length : Int) := by rw [c0]; rw [LX.out]; omega
                  have c3' : ii < (Y.length : Int) := by rw [c0]; rw [LY.out]; omega
                  have c4 : ii < (l3.length : Int) := by rw [c0]; rw [L3.out]; omega
                  have c5' : ii < (l5.length : Int) := by rw [c0]; rw [L5.out]; omega
                  have c6 : ii < (s.length : Int) := by rw [c0]; omega
                  obtain ⟨_, ex, hcx⟩ := Kd.at_string CX1.out ii c1 c2
                  cases ex
                  obtain ⟨_, ey, hcy⟩ := Kd.at_string CY1.out ii c1 c3'
                  cases ey
                  obtain ⟨gp, ep, hcp⟩ := Kd.at_string CP1.out ii c1 c4
                  cases ep
                  obtain ⟨gq, eq_, hcq⟩ := Kd.at_string CQ1.out ii c1 c5'
                  cases eq_
                  obtain ⟨gs, es, hcs⟩ := Kd.at_bool CS1.out ii c1 c6
                  cases es
                  have e_ : ii.toNat = i := by rw [c0]; omega
                  have TX : Hid (rdOf ByteArray.empty X ii = X.getD i ByteArray.empty) := Lib.hid (by unfold rdOf; rw [e_])
                  have TY : Hid (rdOf ByteArray.empty Y ii = Y.getD i ByteArray.empty) := Lib.hid (by unfold rdOf; rw [e_])
                  have TP : Hid (rdOf ByteArray.empty l3 ii = l3.getD i ByteArray.empty) := Lib.hid (by unfold rdOf; rw [e_])
                  have TQ : Hid (rdOf ByteArray.empty l5 ii = l5.getD i ByteArray.empty) := Lib.hid (by unfold rdOf; rw [e_])
                  have TS : Hid (rdOf false s ii = s.getD i false) := Lib.hid (by unfold rdOf; rw [e_])
                  have HII := Lib.hid c0
                  clear e_ c0
                  generalize rdOf ByteArray.empty X ii = xi at *
                  generalize rdOf ByteArray.empty Y ii = yi at *
                  generalize rdOf ByteArray.empty l3 ii = pi at *
                  generalize rdOf ByteArray.empty l5 ii = qi at *
                  generalize rdOf false s ii = si at *
                  have zx := ZX.out i (by omega)
                  have zy := ZY.out i (by omega)
                  have zp := P3.out i hi0
                  have zq := P5.out i hi0
                  rw [← TX.out] at zx
                  rw [← TY.out] at zy
                  rw [← TP.out] at zp
                  rw [← TQ.out] at zq
                  have s1 : ¬ 9223372036854775807 < xi.size + pi.size := by omega
                  have s2 : ¬ 9223372036854775807 < yi.size + qi.size := by omega
                  have s3 : ¬ 9223372036854775807 < pi.size + xi.size := by omega
                  have s4 : ¬ 9223372036854775807 < qi.size + yi.size := by omega
                  have lx : x.getD i [] = Hs.step si xi pi := by rw [FX.out i hi0, TS.out, TX.out, TP.out]
                  have ly : y.getD i [] = Hs.step si yi qi := by rw [FY.out i hi0, TS.out, TY.out, TQ.out]
                  have hfe := FE.out i hi0
                  rw [lx, ly] at hfe
                  have hdd := HD.out
                  unfold lastDiff at hdd
                  rw [lx, ly] at hdd
                  have hl1 : (xi ++ pi).size = 64 := by rw [ByteArray.size_append]; omega
                  have hl2 : (yi ++ qi).size = 64 := by rw [ByteArray.size_append]; omega
                  have hl3 : (pi ++ xi).size = 64 := by rw [ByteArray.size_append]; omega
                  have hl4 : (qi ++ yi).size = 64 := by rw [ByteArray.size_append]; omega
                  have Z1 := Lib.hid hl1
                  have Z2 := Lib.hid hl2
                  have Z3 := Lib.hid hl3
                  have Z4 := Lib.hid hl4
                  have HFE := Lib.hid hfe
                  have HDD := Lib.hid hdd
                  clear zx zy zp zq lx ly hfe hdd hl1 hl2 hl3 hl4 HD HE
                  have HW := HW1
                  clear HW1
                  go_wp2_with fail
                  go_quiet (fail)
                  have thcx : (W1.drewN nq).cell? (gx.add ii.toNat) = some (.string xi) := hcx
                  have thcy : (W1.drewN nq).cell? (gy.add ii.toNat) = some (.string yi) := hcy
                  have thcp : (W1.drewN nq).cell? (gp.add ii.toNat) = some (.string pi) := hcp
                  have thcq : (W1.drewN nq).cell? (gq.add ii.toNat) = some (.string qi) := hcq
                  have thcs : (W1.drewN nq).cell? (gs.add ii.toNat) = some (.bool si) := hcs
                  have tHW : Hid (∃ q, W1.drewN nq = w8.drewN q) := Lib.hid (by obtain ⟨q, hq⟩ := HW.out; exact ⟨q + nq, by rw [hq, World.drewN_drewN]⟩)
                  clear hcx hcy hcp hcq HW hcs
                  generalize W1.drewN nq = W2 at *
                  clear nq
                  have hcx := thcx
                  have hcy := thcy
                  have hcp := thcp
                  have hcq := thcq
                  have hcs := thcs
                  have HW := tHW
                  clear thcx thcy thcp thcq tHW thcs
                  go_wp2_with fail
                  go_quiet (fail)
                  have thcx : (W2.drewN nq).cell? (gx.add ii.toNat) = some (.string xi) := hcx
                  have thcy : (W2.drewN nq).cell? (gy.add ii.toNat) = some (.string yi) := hcy
                  have thcp : (W2.drewN nq).cell? (gp.add ii.toNat) = some (.string pi) := hcp
                  have thcq : (W2.drewN nq).cell? (gq.add ii.toNat) = some (.string qi) := hcq
                  have thcs : (W2.drewN nq).cell? (gs.add ii.toNat) = some (.bool si) := hcs
                  have tHW : Hid (∃ q, W2.drewN nq = w8.drewN q) := Lib.hid (by obtain ⟨q, hq⟩ := HW.out; exact ⟨q + nq, by rw [hq, World.drewN_drewN]⟩)
                  clear hcx hcy hcp hcq HW hcs
                  generalize W2.drewN nq = W3 at *
                  clear nq
                  have hcx := thcx
                  have hcy := thcy
                  have hcp := thcp
                  have hcq := thcq
                  have hcs := thcs
                  have HW := tHW
                  clear thcx thcy thcp thcq tHW thcs
                  cases si with
                  | true =>
                    have hfe := HFE.out
                    have hdd := HDD.out
                    rw [step_t, step_t] at hfe hdd
                    have z1 := Z1.out
                    have z2 := Z2.out
                    clear HFE HDD Z1 Z2 Z3 Z4 s1 s2 s3 s4
                    generalize xi ++ pi = ll at *
                    generalize yi ++ qi = rr at *
                    by_cases hlr : ll = rr
                    · have e7 : (ll.toList == rr.toList) = true := by rw [hlr]; exact beq_self_eq_true _
                      have hst : (1 : Int) :: bytesOf ll = 1 :: bytesOf rr := by rw [hlr]
                      rw [if_pos hst] at hdd
                      have HD2 := Lib.hid hdd
                      have HE2 := Lib.hid (hfe hst)
                      clear hdd hfe hst hlr z1 z2
                      go_wp2
                      clear hcs
                      go_roundw
                      case measure => show ii.toNat < jj.toNat; have h1 := HII.out; have h2 := HJ.out; omega
                      case rel => obtain ⟨q, hq⟩ := HW.out; exact ⟨i, q, by omega, by rw [HII.out], hq, .inl ⟨HE2.out, HD2.out⟩⟩
                    · have e7 : (ll.toList == rr.toList) = false := beq_eq_false_iff_ne.2 (fun e => hlr (toList_inj e))
                      rw [if_neg (fun e => hlr (bytesOf_inj (List.cons.inj e).2))] at hdd
                      obtain ⟨rfl, rfl, rfl⟩ : r1 = 1 :: bytesOf ll ∧ r2 = 1 :: bytesOf rr ∧ r3 = true := by
                        injection hdd with h1 h2
                        injection h2 with h2 h3
                        exact ⟨h1, h2, h3⟩
                      have t1 : ¬ 9223372036854775807 < (⟨#[1]⟩ : ByteArray).size + ll.size := by rw [z1]; decide
                      have t2 : ¬ 9223372036854775807 < (⟨#[1]⟩ : ByteArray).size + rr.size := by rw [z2]; decide
                      obtain ⟨t, ht⟩ : ∃ t : ByteArray, t = ⟨#[1]⟩ ++ ll := ⟨_, rfl⟩
                      obtain ⟨u, hu⟩ : ∃ u : ByteArray, u = ⟨#[1]⟩ ++ rr := ⟨_, rfl⟩
                      obtain ⟨V1, W6, hc1, hR1, hB1⟩ := conv_ok W3 t (by rw [ht, ByteArray.size_append, z1]; decide)
                      obtain ⟨V2, W7, hc2, hR2, hB2⟩ := conv_ok W6 u (by rw [hu, ByteArray.size_append, z2]; decide)
                      rw [ht, one_app] at hR1
                      rw [hu, one_app] at hR2
                      have hbw : Hid (Below w.heap.size w W7) := Lib.hid (by
                        obtain ⟨q, hq⟩ := HW.out
                        have hbw := below_then HB8.out HB8.out.size (Drawn0.mk ⟨q, hq⟩ : Drawn0 w8 W3).below
                        have hb1 := below_then hbw hbw.size hB1
                        exact below_then hb1 hb1.size hB2)
                      have RB1 := Lib.hid (hR1.below hB2)
                      have RB2 := Lib.hid hR2
                      rw [eq_comm] at ht hu
                      clear hdd hfe hlr hR1 hR2 hB1 hB2 z1 z2
                      go_wp2
                      go_ret3
                      exact ⟨V1, V2, rfl, RB1.out, RB2.out, hbw.out⟩
                  | false =>
                    go_wp2_with fail
                    clear hcs
                    go_quiet (fail)
                    have thcx : (W3.drewN nq).cell? (gx.add ii.toNat) = some (.string xi) := hcx
                    have thcy : (W3.drewN nq).cell? (gy.add ii.toNat) = some (.string yi) := hcy
                    have thcp : (W3.drewN nq).cell? (gp.add ii.toNat) = some (.string pi) := hcp
                    have thcq : (W3.drewN nq).cell? (gq.add ii.toNat) = some (.string qi) := hcq
                    have tHW : Hid (∃ q, W3.drewN nq = w8.drewN q) := Lib.hid (by obtain ⟨q, hq⟩ := HW.out; exact ⟨q + nq, by rw [hq, World.drewN_drewN]⟩)
                    clear hcx hcy hcp hcq HW
                    generalize W3.drewN nq = W4 at *
                    clear nq
                    have hcx := thcx
                    have hcy := thcy
                    have hcp := thcp
                    have hcq := thcq
                    have HW := tHW
                    clear thcx thcy thcp thcq tHW
                    go_wp2_with fail
                    go_quiet (fail)
                    have thcx : (W4.drewN nq).cell? (gx.add ii.toNat) = some (.string xi) := hcx
                    have thcy : (W4.drewN nq).cell? (gy.add ii.toNat) = some (.string yi) := hcy
                    have thcp : (W4.drewN nq).cell? (gp.add ii.toNat) = some (.string pi) := hcp
                    have thcq : (W4.drewN nq).cell? (gq.add ii.toNat) = some (.string qi) := hcq
                    have tHW : Hid (∃ q, W4.drewN nq = w8.drewN q) := Lib.hid (by obtain ⟨q, hq⟩ := HW.out; exact ⟨q + nq, by rw [hq, World.drewN_drewN]⟩)
                    clear hcx hcy hcp hcq HW
                    generalize W4.drewN nq = W5 at *
                    clear nq
                    have hcx := thcx
                    have hcy := thcy
                    have hcp := thcp
                    have hcq := thcq
                    have HW := tHW
                    clear thcx thcy thcp thcq tHW
                    have hfe := HFE.out
                    have hdd := HDD.out
                    rw [step_f, step_f] at hfe hdd
                    have z1 := Z3.out
                    have z2 := Z4.out
                    clear HFE HDD Z1 Z2 Z3 Z4 s1 s2 s3 s4
                    generalize pi ++ xi = ll at *
                    generalize qi ++ yi = rr at *
                    by_cases hlr : ll = rr
                    · have e7 : (ll.toList == rr.toList) = true := by rw [hlr]; exact beq_self_eq_true _
                      have hst : (1 : Int) :: bytesOf ll = 1 :: bytesOf rr := by rw [hlr]
                      rw [if_pos hst] at hdd
                      have HD2 := Lib.hid hdd
                      have HE2 := Lib.hid (hfe hst)
                      clear hdd hfe hst hlr z1 z2
                      go_wp2
                      go_roundw
                      case measure => show ii.toNat < jj.toNat; have h1 := HII.out; have h2 := HJ.out; omega
                      case rel => obtain ⟨q, hq⟩ := HW.out; exact ⟨i, q, by omega, by rw [HII.out], hq, .inl ⟨HE2.out, HD2.out⟩⟩
                    · have e7 : (ll.toList == rr.toList) = false := beq_eq_false_iff_ne.2 (fun e => hlr (toList_inj e))
                      rw [if_neg (fun e => hlr (bytesOf_inj (List.cons.inj e).2))] at hdd
                      obtain ⟨rfl, rfl, rfl⟩ : r1 = 1 :: bytesOf ll ∧ r2 = 1 :: bytesOf rr ∧ r3 = true := by
                        injection hdd with h1 h2
                        injection h2 with h2 h3
                        exact ⟨h1, h2, h3⟩
                      have t1 : ¬ 9223372036854775807 < (⟨#[1]⟩ : ByteArray).size + ll.size := by rw [z1]; decide
                      have t2 : ¬ 9223372036854775807 < (⟨#[1]⟩ : ByteArray).size + rr.size := by rw [z2]; decide
                      obtain ⟨t, ht⟩ : ∃ t : ByteArray, t = ⟨#[1]⟩ ++ ll := ⟨_, rfl⟩
                      obtain ⟨u, hu⟩ : ∃ u : ByteArray, u = ⟨#[1]⟩ ++ rr := ⟨_, rfl⟩
                      obtain ⟨V1, W6, hc1, hR1, hB1⟩ := conv_ok W5 t (by rw [ht, ByteArray.size_append, z1]; decide)
                      obtain ⟨V2, W7, hc2, hR2, hB2⟩ := conv_ok W6 u (by rw [hu, ByteArray.size_append, z2]; decide)
                      rw [ht, one_app] at hR1
                      rw [hu, one_app] at hR2
                      have hbw : Hid (Below w.heap.size w W7) := Lib.hid (by
                        obtain ⟨q, hq⟩ := HW.out
                        have hbw := below_then HB8.out HB8.out.size (Drawn0.mk ⟨q, hq⟩ : Drawn0 w8 W5).below
                        have hb1 := below_then hbw hbw.size hB1
                        exact below_then hb1 hb1.size hB2)
                      have RB1 := Lib.hid (hR1.below hB2)
                      have RB2 := Lib.hid hR2
                      rw [eq_comm] at ht hu
                      clear hdd hfe hlr hR1 hR2 hB1 hB2 z1 z2
                      go_wp2
                      go_ret3
                      exact ⟨V1, V2, rfl, RB1.out, RB2.out, hbw.out⟩
              · obtain ⟨rfl, rfl, rfl⟩ : r1 = [] ∧ r2 = [] ∧ r3 = false := by
                  injection hd with h1 h2
                  injection h2 with h2 h3
                  exact ⟨h1, h2, h3⟩
                clear hd
                cases j with
                | zero =>
                  clear he
                  rw [show ((0 : Nat) : Int) = 0 from rfl]
                  go_wp2_with fail
                  go_quiet (fail)
                  go_wp2
                  go_ret3
                  exact ⟨_, _, rfl, RB.nil _, RB.nil _, below_then HBr.out HBr.out.size (Drawn0.mk ⟨_, rfl⟩ : Drawn0 W (W.drewN _)).below⟩
                | succ i =>
                  obtain ⟨jj, hjj⟩ : ∃ jj : Int, jj = ((i + 1 : Nat) : Int) := ⟨_, rfl⟩
                  rw [← hjj]
                  have b0 : jj > 0 := by omega
                  have b0' : (0 : Int) < jj := by omega
                  have b1 : 0 ≤ jj := by omega
                  have b2 : jj < (X.length : Int) := by rw [LX.out]; omega
                  have b3 : jj < (Y.length : Int) := by rw [LY.out]; omega
                  obtain ⟨gx, ex, hcx⟩ := Kd.at_string CXr.out jj b1 b2
                  cases ex
                  obtain ⟨gy, ey, hcy⟩ := Kd.at_string CYr.out jj b1 b3
                  cases ey
                  have e5 : ((rdOf ByteArray.empty X jj).toList == (rdOf ByteArray.empty Y jj).toList) = false := beq_eq_false_iff_ne.2 (fun e => he (by have := toList_inj e; unfold rdOf at this; rw [hjj, Int.toNat_natCast] at this; exact this))
                  clear he hjj
                  go_wp2_with fail
                  go_quiet (fail)
                  go_wp2
                  go_ret3
                  exact ⟨_, _, rfl, RB.nil _, RB.nil _, below_then HBr.out HBr.out.size (Drawn0.mk ⟨_, rfl⟩ : Drawn0 W (W.drewN _)).below⟩
    · obtain ⟨rfl, rfl, rfl⟩ := NQ.out (.inr (.inl hl5))
      have f2 : ((l5.length : Int) != (s.length : Int)) = true := bne_iff_ne.mpr (by omega)
      clear hl3 hl5
      go_wp2
      go_ret3
      exact ⟨_, _, rfl, RB.nil _, RB.nil _, HB2.out⟩
  · obtain ⟨rfl, rfl, rfl⟩ := NQ.out (.inl hl3)
    have f1 : ((l3.length : Int) != (s.length : Int)) = true := bne_iff_ne.mpr (by omega)
    clear hl3
    go_wp2
    go_ret3
    exact ⟨_, _, rfl, RB.nil _, RB.nil _, HB2.out⟩
end Go.Proofs.Ytkbbdbnjplcjdaa
end
section
/-
  What hash.Collide tells, plainly: two texts that are not the same with one sum, or, where two leaves stand under one root, always.
-/
namespace Go.Proofs.Ytkbbdbnjplcjdaa
open Go.RowKit Go.Proofs.YtkbbdbnjplcjdaaW.PrintWords Go.Proofs.YtkbbdbnjplcjdaaW.PrintLast Go.Proofs.YtkbbdbnjplcjdaaW.PrintMore
set_option linter.unusedVariables false
set_option linter.unusedSimpArgs false
theorem lastDiff_spec (x y : List (List Int)) (n : Nat) :
    (∃ j, j < n ∧ x.getD j [] ≠ y.getD j [] ∧ (∀ i, j < i → i < n → x.getD i [] = y.getD i []) ∧ lastDiff x y n = (x.getD j [], y.getD j [], true)) ∨ ((∀ i, i < n → x.getD i [] = y.getD i []) ∧ lastDiff x y n = ([], [], false)) := by
  induction n with
  | zero => exact .inr ⟨fun i hi => absurd hi (Nat.not_lt_zero _), rfl⟩
  | succ n ih =>
    by_cases h : x.getD n [] = y.getD n []
    · have e : lastDiff x y (n + 1) = lastDiff x y n := by rw [lastDiff, if_pos h]
      rw [e]
      rcases ih with ⟨j, hj, hne, hall, hq⟩ | ⟨hall, hq⟩
      · refine .inl ⟨j, by omega, hne, fun i h1 h2 => ?_, hq⟩
        by_cases hi : i = n
        · rw [hi]; exact h
        · exact hall i h1 (by omega)
      · refine .inr ⟨fun i h2 => ?_, hq⟩
        by_cases hi : i = n
        · rw [hi]; exact h
        · exact hall i (by omega)
    · exact .inl ⟨n, by omega, h, fun i h1 h2 => by omega, by rw [lastDiff, if_neg h]⟩
theorem whole_at {l : List ByteArray} (h : wholeB l = true) (j : Nat) (hj : j < l.length) : (l.getD j ByteArray.empty).size = 32 := by
  unfold wholeB at h
  rw [List.all_eq_true] at h
  rw [List.getD_eq_getElem?_getD, List.getElem?_eq_getElem hj]
  simpa using h _ (List.getElem_mem hj)
/-- all that stands behind a Collide that goes down the way -/
theorem coll_way (a b : ByteArray) (s : List Bool) (pa pb : List ByteArray) (ha : pa.length = s.length) (hb : pb.length = s.length) (wa : wholeB pa = true) (wb : wholeB pb = true) (wl : wholeB [a, b] = true) (hab : a ≠ b) (ht : Hs.climb a s pa = Hs.climb b s pb) :
    ∃ j, j < s.length ∧ (Hs.inputs a s pa).getD j [] ≠ (Hs.inputs b s pb).getD j [] ∧ Sha.sum ((Hs.inputs a s pa).getD j []) = Sha.sum ((Hs.inputs b s pb).getD j []) ∧
      lastDiff (Hs.inputs a s pa) (Hs.inputs b s pb) s.length = ((Hs.inputs a s pa).getD j [], (Hs.inputs b s pb).getD j [], true) := by
  have z2 : a.size = 32 := by have h := wl; simp [wholeB] at h; exact h.1
  have z4 : b.size = 32 := by have h := wl; simp [wholeB] at h; exact h.2
  have fx := fun j (hj : j < s.length) => F.climbs_at s a pa j hj ha
  have fy := fun j (hj : j < s.length) => F.climbs_at s b pb j hj hb
  have fe : ∀ j, j < s.length → (Hs.inputs a s pa).getD j [] = (Hs.inputs b s pb).getD j [] → (a :: F.climbs a s pa).getD j ByteArray.empty = (b :: F.climbs b s pb).getD j ByteArray.empty := fun j hj e => by
    rw [(fx j hj).1, (fy j hj).1] at e
    exact F.step_inj _ _ _ _ _ (F.climbs_32 a s pa z2 ha j (by omega)) (F.climbs_32 b s pb z4 hb j (by omega)) (whole_at wa j (by omega)) (whole_at wb j (by omega)) e
  have top : (a :: F.climbs a s pa).getD s.length ByteArray.empty = (b :: F.climbs b s pb).getD s.length ByteArray.empty := by rw [F.climbs_last, F.climbs_last, ht]
  rcases lastDiff_spec (Hs.inputs a s pa) (Hs.inputs b s pb) s.length with ⟨j, hj, hne, hall, hq⟩ | ⟨hall, hq⟩
  · refine ⟨j, hj, hne, ?_, hq⟩
    rw [← (fx j hj).2, ← (fy j hj).2]
    by_cases hl : j + 1 = s.length
    · rw [hl]; exact top
    · exact fe (j + 1) (by omega) (hall (j + 1) (by omega) (by omega))
  · exfalso
    apply hab
    by_cases h0 : s.length = 0
    · have := top
      rw [h0] at this
      exact this
    · exact fe 0 (by omega) (hall 0 (by omega))
theorem inputs_step (x : ByteArray) (bs : List Bool) (ps : List ByteArray) (hx : small x) (hp : F.smalls ps) (j : Nat) (hj : j < bs.length) (hl : ps.length = bs.length) : ∃ t : ByteArray, (Hs.inputs x bs ps).getD j [] = bytesOf t ∧ t.size ≤ 140737488355000 := by
  have h := F.climbs_at bs x ps j hj hl
  have hq : small (ps.getD j ByteArray.empty) := by
    rw [List.getD_eq_getElem?_getD, List.getElem?_eq_getElem (by omega)]
    exact hp _ (List.getElem_mem _)
  have hc : small ((x :: F.climbs x bs ps).getD j ByteArray.empty) := by
    cases j with
    | zero => exact hx
    | succ j => rw [(F.climbs_at bs x ps j (by omega) hl).2]; exact F.small_sum _
  have hlen := F.step_length (bs.getD j false) _ _ hc hq
  rw [h.1]
  rw [← h.1] at hlen ⊢
  rw [h.1]
  rw [h.1] at hlen
  cases hb : bs.getD j false with
  | true => rw [hb, step_t] at hlen; exact ⟨⟨#[1]⟩ ++ _, by rw [step_t, one_app], by rw [← bytesOf_length, one_app]; omega⟩
  | false => rw [hb, step_f] at hlen; exact ⟨⟨#[1]⟩ ++ _, by rw [step_f, one_app], by rw [← bytesOf_length, one_app]; omega⟩
theorem str_bytes (t : ByteArray) : strOfNums (bytesOf t) = t := by
  have h : (strOfNums (bytesOf t)).data.toList = t.data.toList := by
    rw [strOfNums_data, bytesOf, List.map_map]
    conv => rhs; rw [← List.map_id t.data.toList]
    refine List.map_congr_left fun b _ => ?_
    simp
  cases t
  rename_i d
  have : (strOfNums (bytesOf ⟨d⟩)).data = d := Array.toList_inj.1 h
  calc strOfNums (bytesOf ⟨d⟩) = ⟨(strOfNums (bytesOf ⟨d⟩)).data⟩ := rfl
    _ = ⟨d⟩ := by rw [this]
/-- what Collide tells is true -/
theorem coll_true (i n : Int) (a : ByteArray) (pa : List ByteArray) (b : ByteArray) (pb : List ByteArray) (h : (collide i n a pa b pb).2.2 = true) :
    ∃ t u : ByteArray, collide i n a pa b pb = (bytesOf t, bytesOf u, true) ∧ t ≠ u ∧ Sha.sum (bytesOf t) = Sha.sum (bytesOf u) ∧ t.size ≤ 140737488355000 ∧ u.size ≤ 140737488355000 := by
  unfold collide at h ⊢
  split at h
  · cases h
  rename_i c1
  rw [if_neg c1]
  split at h
  · cases h
  rename_i c2
  rw [if_neg c2]
  split at h
  case isFalse => cases h
  rename_i c3
  rw [if_pos c3]
  have hs : pa.length = (Hs.sides i.toNat n.toNat).length := Decidable.byContradiction fun e => c2 (.inl e)
  have hs2 : pb.length = (Hs.sides i.toNat n.toNat).length := Decidable.byContradiction fun e => c2 (.inr (.inl e))
  have w1 : wholeB pa = true := by cases e : wholeB pa with | true => rfl | false => exact absurd (.inr (.inr (.inl e))) c2
  have w2 : wholeB pb = true := by cases e : wholeB pb with | true => rfl | false => exact absurd (.inr (.inr (.inr (.inl e)))) c2
  have w3 : wholeB [a, b] = true := by cases e : wholeB [a, b] with | true => rfl | false => exact absurd (.inr (.inr (.inr (.inr e)))) c2
  obtain ⟨j, hj, hne, hsum, hq⟩ := coll_way a b _ pa pb hs hs2 w1 w2 w3 (fun e => c1 (.inr e)) c3
  obtain ⟨t, ht, ht2⟩ := inputs_step a _ pa (wholeB_small _ w3 a (by simp)) (wholeB_small _ w1) j hj hs
  obtain ⟨u, hu, hu2⟩ := inputs_step b _ pb (wholeB_small _ w3 b (by simp)) (wholeB_small _ w2) j hj hs2
  rw [ht, hu] at hne hsum hq
  exact ⟨t, u, hq, fun e => hne (by rw [e]), hsum, ht2, hu2⟩
/-- two leaves under one root: it tells -/
theorem coll_both (i n : Int) (a : ByteArray) (pa : List ByteArray) (b : ByteArray) (pb : List ByteArray) (root : ByteArray) (hab : a ≠ b) (h1 : F.checkPath a i n pa root = 0) (h2 : F.checkPath b i n pb root = 0) : (collide i n a pa b pb).2.2 = true := by
  unfold F.checkPath at h1 h2
  split at h1
  · cases h1
  rename_i hp
  rw [if_neg hp] at h2
  split at h1
  · cases h1
  rename_i c1
  split at h2
  · cases h2
  rename_i c2
  split at h1
  case isFalse => cases h1
  rename_i r1
  split at h2
  case isFalse => cases h2
  rename_i r2
  have hs : pa.length = (Hs.sides i.toNat n.toNat).length := Decidable.byContradiction fun e => c1 (.inl e)
  have hs2 : pb.length = (Hs.sides i.toNat n.toNat).length := Decidable.byContradiction fun e => c2 (.inl e)
  have w1 : wholeB pa = true := by cases e : wholeB pa with | true => rfl | false => exact absurd (.inr (.inl e)) c1
  have w2 : wholeB pb = true := by cases e : wholeB pb with | true => rfl | false => exact absurd (.inr (.inl e)) c2
  have w3 : wholeB [a, root] = true := by cases e : wholeB [a, root] with | true => rfl | false => exact absurd (.inr (.inr e)) c1
  have w4 : wholeB [b, root] = true := by cases e : wholeB [b, root] with | true => rfl | false => exact absurd (.inr (.inr e)) c2
  have wl : wholeB [a, b] = true := by
    simp [wholeB] at w3 w4 ⊢
    exact ⟨w3.1, w4.1⟩
  unfold collide
  rw [if_neg (by rintro (h | h); exact hp h; exact hab h), if_neg (by rw [hs, hs2, w1, w2, wl]; simp), if_pos (r1.trans r2.symm)]
  obtain ⟨j, hj, hne, hsum, hq⟩ := coll_way a b _ pa pb hs hs2 w1 w2 wl hab (r1.trans r2.symm)
  rw [hq]
end Go.Proofs.Ytkbbdbnjplcjdaa
end
section
/-
  The leaves that the statements of this chapter take of what they are given; a place among them.
-/
namespace Go.Proofs.Ytkbbdbnjplcjdaa.F
open Go.RowKit Go.Proofs.Ytkbbdbnjplcjdaa Go.Proofs.YtkbbdbnjplcjdaaW.PrintWords Go.Proofs.YtkbbdbnjplcjdaaW.PrintLast Go.Proofs.YtkbbdbnjplcjdaaW.PrintMore
set_option linter.unusedVariables false
set_option linter.unusedSimpArgs false
theorem and65535 (n : Int) : Go.bits .and .i64 n 65535 = n % 65536 := by
  have h127 : (BitVec.ofInt 64 65535).toNat = 2 ^ 16 - 1 := by decide
  have key : (BitVec.ofInt 64 n &&& BitVec.ofInt 64 65535).toNat = (n % ((2 ^ 64 : Nat) : Int)).toNat % 2 ^ 16 := by
    rw [BitVec.toNat_and, BitVec.toNat_ofInt, h127, Nat.and_two_pow_sub_one_eq_mod]
  show IntKind.i64.wrap ((BitVec.ofInt 64 n &&& BitVec.ofInt 64 65535).toNat : Nat) = n % 65536
  rw [key, IntKind.wrap_i64]
  omega
theorem picked (a : Int) (n : Nat) (h : 0 < n) : ∃ i : Nat, Int.tmod (Go.bits .and .i64 a 65535) (n : Int) = (i : Int) ∧ i < n := by
  rw [and65535]
  have h1 := Int.tmod_nonneg (n : Int) (Int.emod_nonneg a (by decide : (65536 : Int) ≠ 0))
  have h2 := Int.tmod_lt_of_pos (a % 65536) (b := (n : Int)) (by omega)
  exact ⟨(Int.tmod (a % 65536) (n : Int)).toNat, by omega, by omega⟩
/-- the hashes of the first seventy leaves -/
def leavesOf (l : List (List Int)) : List ByteArray := (l.take 70).map Hs.leaf
theorem leaves_length (l : List (List Int)) : (leavesOf l).length = min 70 l.length := by simp [leavesOf]
theorem leaves_sized (l : List (List Int)) : sized (leavesOf l) := by
  intro x hx
  obtain ⟨b, _, rfl⟩ := List.mem_map.1 hx
  exact Hs.leaf_size b
theorem byte_rows (l : List (List Int)) (hb : ∀ r ∈ l, ∀ x ∈ r, 0 ≤ x ∧ x < 256) (i : Nat) : ∀ x ∈ l.getD i [], 0 ≤ x ∧ x < 256 := by
  intro x hx
  rw [List.getD_eq_getElem?_getD] at hx
  by_cases h : i < l.length
  · rw [List.getElem?_eq_getElem h] at hx
    exact hb _ (List.getElem_mem h) x hx
  · rw [List.getElem?_eq_none (by omega)] at hx
    simp at hx
theorem small_rows (l : List (List Int)) (hs : ∀ r ∈ l, r.length ≤ 140737488351232) (i : Nat) : (l.getD i []).length ≤ 140737488354000 := by
  rw [List.getD_eq_getElem?_getD]
  by_cases h : i < l.length
  · rw [List.getElem?_eq_getElem h]
    have := hs _ (List.getElem_mem h)
    simp only [Option.getD_some]
    omega
  · rw [List.getElem?_eq_none (by omega)]
    simp
theorem leaves_from (l : List (List Int)) (hs : ∀ r ∈ l, r.length ≤ 140737488351232) (hb : ∀ r ∈ l, ∀ x ∈ r, 0 ≤ x ∧ x < 256) (d : Nat) : ∀ i, i + d = min 70 l.length → Ev (fun k => sawyerlaw15_leaves.l0 k l ((l.take i).map Hs.leaf) (i : Int)) (leavesOf l) := by
  induction d with
  | zero =>
    intro i hi
    refine Ev.step (f := fun _ => some _) (fun k => ?_) (Ev.now _)
    simp only [sawyerlaw15_leaves.l0]
    have ht : l.take i = l.take 70 := by
      rcases Nat.lt_or_ge 70 l.length with h | h
      · rw [show i = 70 by omega]
      · rw [List.take_of_length_le (by omega), List.take_of_length_le (by omega)]
    by_cases h : (i : Int) < (l.length : Int)
    · rw [if_pos h, if_neg (by omega), ht]; rfl
    · rw [if_neg h, ht]; rfl
  | succ d ih =>
    intro i hi
    have hlt : i < l.length := by omega
    refine Ev.step (f := fun k => (sawyerref15_Leaf.f k (l.getD i [])).bind fun t => if ((l.take i).map Hs.leaf).length < 8796093022208 then sawyerlaw15_leaves.l0 k l ((l.take i).map Hs.leaf ++ [t]) ((i + 1 : Nat) : Int) else none) (fun k => ?_)
      (Ev.bind (rleaf_some _ (byte_rows l hb i) (small_rows l hs i)) (Ev.congr (fun k => ?_) (ih (i + 1) (by omega))))
    · simp only [sawyerlaw15_leaves.l0]
      rw [if_pos (by omega), if_pos (by omega), if_pos (by omega), show wrap64 ((i : Int) + 1) = ((i + 1 : Nat) : Int) by unfold wrap64; omega]
      rfl
    · rw [if_pos (by simp; omega), List.take_succ_eq_append_getElem hlt, List.map_append, List.getD_eq_getElem?_getD, List.getElem?_eq_getElem hlt]
      rfl
theorem leaves_ev (l : List (List Int)) (hs : ∀ r ∈ l, r.length ≤ 140737488351232) (hb : ∀ r ∈ l, ∀ x ∈ r, 0 ≤ x ∧ x < 256) : Ev (fun k => sawyerlaw15_leaves.f k l) (leavesOf l) :=
  leaves_from l hs hb (min 70 l.length) 0 (by omega)
theorem pathR_in (l : List ByteArray) (i : Nat) (h : i < l.length) : pathR l (i : Int) = (Hs.path l i, 0) := if_pos ⟨by omega, by omega⟩
end Go.Proofs.Ytkbbdbnjplcjdaa.F
end
