-- JOINED BY A PROGRAM OF THIS PLACE (wip/tools/pack.py) out of: Ref15Node HsRef F32
import Derived.Lib.AtoiErrMem
import Derived.Test.YtkbbdbnjplcjdaaC3
import Derived.Test.YtkbbdbnjplcjdaaC5
import Derived.Test.YtkbbdbnjplcjdaaC6
import Derived.Test.YtkbbdbnjplcjdaaC8
section
/-
  sawyerref15.Node: the hash of a node, as the plain text Hs has it.
-/
namespace Go.Proofs.Ytkbbdbnjplcjdaa
open Go.RowKit Go.Proofs.YtkbbdbnjplcjdaaW.PrintWords Go.Proofs.YtkbbdbnjplcjdaaW.PrintLast Go.Proofs.YtkbbdbnjplcjdaaW.PrintMore
set_option linter.unusedVariables false
set_option linter.unusedSimpArgs false
/-- a node's two sides may be hashed: they are not too long -/
def nodeOk (a b : ByteArray) : Bool := decide (a.size + b.size ≤ 140737488354000)
def sawyerref15_Node.f (a0 a1 : ByteArray) : Option ByteArray := if nodeOk a0 a1 = true then some (Hs.node a0 a1) else none
theorem one_append (a b : ByteArray) : (⟨#[1]⟩ : ByteArray) ++ a ++ b = (⟨#[1]⟩ : ByteArray) ++ (a ++ b) := ByteArray.append_assoc
theorem joined_bytes (a b : ByteArray) : bytesOf ((⟨#[1]⟩ : ByteArray) ++ a ++ b) = Hs.joined a b := by
  rw [one_append]
  unfold Hs.joined bytesOf
  simp [ByteArray.data_append]
set_option maxHeartbeats 1000000 in
set_option maxRecDepth 100000 in
theorem sawyerref15_Node.calls (a0 a1 : ByteArray) (r : ByteArray) (w : World) (h : sawyerref15_Node.f a0 a1 = some r) :
    Calls Try.prog 17 #[.string a0, .string a1] w fun e w' => e = .returned (.string r) ∧ Below w.heap.size w w' := by
  unfold sawyerref15_Node.f at h
  split at h
  case isFalse => cases h
  rename_i hok
  obtain rfl := Option.some.inj h
  clear h
  have hsz : a0.size + a1.size ≤ 140737488354000 := of_decide_eq_true hok
  have HSZ := Lib.hid hsz
  have hn1 : ¬ 9223372036854775807 < 1 + a0.size := by omega
  have hn2 : ¬ 9223372036854775807 < 1 + a0.size + a1.size := by omega
  clear hok hsz
  have hcv := fun w => Lib.run_convert_string_bytes (P := Try.prog) w 9 23 5 ((⟨#[1]⟩ : ByteArray) ++ a0 ++ a1) Try.underlying9 Try.underlying23 Try.underlying5
  go_enter Try.func17, Try.ntmps17
  go_wp2_with fail
  have hmk := marked_conv w ((⟨#[1]⟩ : ByteArray) ++ a0 ++ a1) (by rw [ByteArray.size_append, ByteArray.size_append]; have := HSZ.out; show 1 + a0.size + a1.size ≤ maxLen; unfold maxLen; omega)
  have hbw := Lib.bytesWorld_below w 5 ((⟨#[1]⟩ : ByteArray) ++ a0 ++ a1)
  have hjb := joined_bytes a0 a1
  have hjl : ((⟨#[1]⟩ : ByteArray) ++ a0 ++ a1).size = (Hs.joined a0 a1).length := by rw [← hjb, bytesOf_length]
  rw [hjb] at hmk
  clear hcv
  have hjl2 : 1 + a0.size + a1.size = (Hs.joined a0 a1).length := by rw [← hjl, ByteArray.size_append, ByteArray.size_append]; rfl
  rw [hjl] at hmk
  rw [hjl2]
  generalize grownCap w (Hs.joined a0 a1).length 0 5 = ck at *
  generalize Lib.bytesWorld w 5 ((⟨#[1]⟩ : ByteArray) ++ a0 ++ a1) = W at *
  obtain ⟨A, c, e, hle, hrd⟩ := any_reads (.inr hmk)
  cases e
  have hok : Sha.ok (Hs.joined a0 a1) = true := by
    rw [F.ok_iff]
    refine ⟨?_, ?_⟩
    · rw [← hjb]; exact bytesOf_range _
    · rw [← hjl, ByteArray.size_append, ByteArray.size_append]
      have := HSZ.out
      show 1 + a0.size + a1.size ≤ _
      omega
  obtain ⟨k, hk⟩ := (F.ref_sum _ hok).rounds
  have HB := Lib.hid hbw
  clear hbw hjb hjl hok hmk
  refine (F.sawyerref01_Sum.calls k _ _ (Hs.joined a0 a1) _ W hrd hle hk).mono ?_
  rintro e w3 ⟨rfl, hb3⟩
  have HB3 := Lib.hid (below_then HB.out HB.out.size hb3)
  clear hb3 hrd hk
  go_wp2
  go_ret
  exact ⟨rfl, HB3.out⟩
end Go.Proofs.Ytkbbdbnjplcjdaa
end
section
/-
  The document's Cut, whole, Leaf, Node, Same, as the plain text Hs has them.
-/
namespace Go.Proofs.Ytkbbdbnjplcjdaa.F
open Go.RowKit Go.Proofs.Ytkbbdbnjplcjdaa Go.Proofs.YtkbbdbnjplcjdaaW.PrintWords Go.Proofs.YtkbbdbnjplcjdaaW.PrintLast Go.Proofs.YtkbbdbnjplcjdaaW.PrintMore
set_option linter.unusedVariables false
set_option linter.unusedSimpArgs false
theorem rcut_from (n E : Nat) (hn : n ≤ 2305843009213693952) (h1 : 2 ^ E < n) (h2 : n ≤ 2 * 2 ^ E) (d : Nat) : ∀ e, e + d = E → Ev (fun k => sawyerref15_Cut.l0 k (n : Int) ((2 ^ e : Nat) : Int)) ((2 ^ E : Nat) : Int) := by
  induction d with
  | zero =>
    intro e he
    obtain rfl : e = E := by omega
    refine Ev.step (f := fun _ => some _) (fun k => ?_) (Ev.now _)
    simp only [sawyerref15_Cut.l0]
    rw [if_neg (by unfold wrap64; omega)]
  | succ d ih =>
    intro e he
    have hle : 2 ^ (e + 1) ≤ 2 ^ E := Nat.pow_le_pow_right (by omega) (by omega)
    have hp : 2 ^ (e + 1) = 2 * 2 ^ e := by rw [Nat.pow_succ]; omega
    have hw : wrap64 (2 * ((2 ^ e : Nat) : Int)) = ((2 ^ (e + 1) : Nat) : Int) := by
      rw [hp]
      unfold wrap64
      omega
    refine Ev.step (fun k => ?_) (ih (e + 1) (by omega))
    simp only [sawyerref15_Cut.l0]
    rw [hw, if_pos (by omega)]
theorem rcut_some (n : Nat) (h : 2 ≤ n) (hn : n ≤ 2305843009213693952) : Ev (fun k => sawyerref15_Cut.f k (n : Int)) (Hs.cut n : Int) := by
  have a := Hs.cut_lt n h
  have b := Hs.cut_two n h
  unfold Hs.cut at a b ⊢
  exact rcut_from n _ hn a b _ 0 (Nat.zero_add _)
theorem rdOf_nat (l : List ByteArray) (i : Nat) : rdOf ByteArray.empty l (i : Int) = l.getD i ByteArray.empty := by
  simp [rdOf]
theorem rwhole_from (l : List ByteArray) (hl : l.length ≤ 9223372036854775806) (d : Nat) : ∀ i, i + d = l.length → Ev (fun k => sawyerref15_whole.l0 k l (i : Int)) ((l.drop i).all fun s => decide (s.size = 32)) := by
  induction d with
  | zero =>
    intro i hi
    refine Ev.step (f := fun _ => some _) (fun k => ?_) (Ev.now _)
    simp only [sawyerref15_whole.l0]
    rw [if_neg (by omega), List.drop_eq_nil_of_le (by omega)]
    rfl
  | succ d ih =>
    intro i hi
    have hlt : i < l.length := by omega
    rw [List.drop_eq_getElem_cons hlt, List.all_cons]
    by_cases h32 : (l[i]).size = 32
    · rw [decide_eq_true h32, Bool.true_and]
      refine Ev.step (fun k => ?_) (ih (i + 1) (by omega))
      simp only [sawyerref15_whole.l0]
      rw [if_pos (by omega), if_pos (by omega), rdOf_nat, List.getD_eq_getElem?_getD, List.getElem?_eq_getElem hlt, Option.getD_some, if_pos (by rw [h32]; rfl), show wrap64 ((i : Int) + 1) = ((i + 1 : Nat) : Int) by unfold wrap64; omega]
    · rw [decide_eq_false h32, Bool.false_and]
      refine Ev.step (f := fun _ => some _) (fun k => ?_) (Ev.now _)
      simp only [sawyerref15_whole.l0]
      rw [if_pos (by omega), if_pos (by omega), rdOf_nat, List.getD_eq_getElem?_getD, List.getElem?_eq_getElem hlt, Option.getD_some, if_neg (by omega)]
theorem rwhole_some (l : List ByteArray) (hl : l.length ≤ 9223372036854775806) : Ev (fun k => sawyerref15_whole.f k l) (wholeB l) := by
  have := rwhole_from l hl l.length 0 (by omega)
  simpa [sawyerref15_whole.f, wholeB] using this
theorem rleaf_some (l : List Int) (hb : ∀ x ∈ l, 0 ≤ x ∧ x < 256) (h : l.length ≤ 140737488354000) : Ev (fun k => sawyerref15_Leaf.f k l) (Hs.leaf l) := by
  have hok : Sha.ok ([0] ++ l) = true := by
    rw [ok_iff]
    refine ⟨fun x hx => ?_, by simp; omega⟩
    rcases List.mem_append.1 hx with hx | hx
    · rw [List.mem_singleton.1 hx]; omega
    · exact hb x hx
  refine Ev.congr (f := fun k => (sawyerref01_Sum.f k ([0] ++ l)).bind fun t => some t) (fun k => ?_) (Ev.bind (f := fun _ t => some t) (ref_sum _ hok) (Ev.now _))
  unfold sawyerref15_Leaf.f
  rw [Option.bind_some, if_pos (by simp; omega)]
theorem rnode_some (a b : ByteArray) (h : a.size + b.size ≤ 140737488354000) : sawyerref15_Node.f a b = some (Hs.node a b) := if_pos (decide_eq_true h)
end Go.Proofs.Ytkbbdbnjplcjdaa.F
end
section
-- WRITTEN BY A PROGRAM OF THIS PLACE (wip/tools/pp.sh: the print, turned for functions proved by hand). Lean checks it.
namespace Go.Proofs.Ytkbbdbnjplcjdaa.F
open Go.RowKit Go.Proofs.YtkbbdbnjplcjdaaW.PrintWords Go.Proofs.YtkbbdbnjplcjdaaW.PrintLast Go.Proofs.YtkbbdbnjplcjdaaW.PrintMore
attribute [local go_sem] max2_int min2_int max_two min_two max_three min_three max_four min_four   -- for this text's walks alone
set_option linter.unusedVariables false
set_option linter.unusedSimpArgs false
/-! ### sawyerref15_Climb: function 45 -/
def sawyerref15_Climb.l0 : Nat → List Bool → List ByteArray → List ByteArray → Int → Option (List ByteArray)
  | 0, _, _, _, _ => none
  | k + 1, x1, x2, x7, x8 => if x8 < (x1.length : Int) then (if 0 ≤ x8 then (if x8 < (x7.length : Int) then (if rdOf false x1 x8 = true then (if x8 < (x2.length : Int) then ((sawyerref15_Node.f (rdOf ByteArray.empty x7 x8) (rdOf ByteArray.empty x2 x8)).bind fun t482 => (if x7.length < 8796093022208 then (sawyerref15_Climb.l0 k x1 x2 (x7 ++ [t482]) (wrap64 (x8 + 1))) else (none))) else (none)) else (if x8 < (x2.length : Int) then ((sawyerref15_Node.f (rdOf ByteArray.empty x2 x8) (rdOf ByteArray.empty x7 x8)).bind fun t487 => (if x7.length < 8796093022208 then (sawyerref15_Climb.l0 k x1 x2 (x7 ++ [t487]) (wrap64 (x8 + 1))) else (none))) else (none))) else (none)) else (none)) else (some x7)
def sawyerref15_Climb.f (k : Nat) (a0 : ByteArray) (l1 : List Bool) (l2 : List ByteArray) : Option (List ByteArray) := sawyerref15_Climb.l0 k l1 l2 (([a0] : List ByteArray)) 0
set_option maxHeartbeats 8000000 in
set_option maxRecDepth 100000 in
theorem sawyerref15_Climb.calls (k : Nat) (a0 : ByteArray) (A1 : Option Addr) (c1 : Nat) (l1 : List Bool) (A2 : Option Addr) (c2 : Nat) (l2 : List ByteArray) (r : List ByteArray) (w : World) (hr1 : Kd.C Kd.bool w A1 l1.length l1) (hc1 : l1.length ≤ c1) (hr2 : Kd.C Kd.string w A2 l2.length l2) (hc2 : l2.length ≤ c2) (h : sawyerref15_Climb.f k a0 l1 l2 = some r) :
    Calls Try.prog 45 #[.string a0, .slice A1 l1.length c1, .slice A2 l2.length c2] w fun e w' => ∃ v0_ : Value, e = .returned (v0_) ∧ Kd.R Kd.string 9 w' w.heap.size (fun _ => True) v0_ r ∧ Below w.heap.size w w' := by
  (have HR1 := Aside0.mk hr1); (have HC1 := Aside0.mk hc1); (clear hr1 hc1); (have HR2 := Aside0.mk hr2); (have HC2 := Aside0.mk hc2); (clear hr2 hc2); (have HB := Aside0.mk (Below.refl w.heap.size w)); (have H : (sawyerref15_Climb.l0 k l1 l2 (([a0] : List ByteArray)) 0) = some r := h); (clear h); (obtain ⟨y476, hy476⟩ : ∃ y_ : List ByteArray, y_ = (([a0] : List ByteArray)) := ⟨_, rfl⟩); (replace H : (sawyerref15_Climb.l0 k l1 l2 y476 0) = some r := by first | (rw [hy476]; with_reducible exact H) | (have H2_ := (Option.bind_some _ _).symm.trans H; rw [hy476]; with_reducible exact H2_) | (have H2_ := (Option.bind_some _ _).symm.trans H; with_reducible exact H2_) | with_reducible exact H | (rw [hy476]; exact H) | exact H); (have Ny476 := Aside0.mk hy476); (clear hy476); (have H' := Aside0.mk H); (clear H); (go_enter Try.func45, Try.ntmps45); (go_wp2_with (first | ((with_reducible refine gate_dst (N := 11) rfl ?_); refine Kd.R_lit Kd.string _ 9 ?hg (N := 11) ?hd (xs := ([a0] : List ByteArray)) (inner := [.string a0]) (ok := fun _ => True) (okp := fun _ => True) ?hr ?hp (fun _ hk => hk) trivial (Below.refl _ _) (Nat.le_refl _) (by simp) ?_; (case hd => rfl); (case hg => rfl); (case hr => first | (go_simp; done) | (go_simp; rfl) | (go_simp; simp [IntKind.wrap_u32]; done)); (case hp => exact (Reps.one (show Kd.M Kd.string _ _ _ a0 [.string a0] from rfl) (Reps.none _ _))); intro v477 w4 ho5 hb hg_ hnew_; clear hg_ hnew_; (first | rw [← Ny476.out] at ho5 | (simp only [Int.reduceToNat] at ho5; rw [← Ny476.out] at ho5)); have n0_ := Aside0.mk (Kd.R_lower ho5 (below_size (by repeat (first | (with_reducible first | exact HB.out | apply below_alloc | apply pw_below_drewN | apply below_drew1) | exact HB.out)))); have n1_ := Aside0.mk (below_step (by repeat (first | (with_reducible first | exact HB.out | apply below_alloc | apply pw_below_drewN | apply below_drew1) | exact HB.out)) hb); clear HB; have HO478 := n0_; have HB := n1_; clear n0_ n1_; clear hb ho5))); (go_loopg [7, 8] k (fun kq v7 v8 w' => ∃ (x7_1 : List ByteArray) (x8_1 : Int), v8 = .int .i64 x8_1 ∧ Aside0 (sawyerref15_Climb.l0 kq l1 l2 x7_1 x8_1 = some r) ∧ Aside0 (kq ≤ k) ∧ Aside0 (Kd.R Kd.string 9 w' w.heap.size (fun _ => True) v7 x7_1) ∧ Aside0 (Below w.heap.size w w')))
  case atStart => exact ⟨(y476), (0), (by first | rfl | (simp; done) | (simp [*]; done)), H', ⟨Nat.le_refl _⟩, ⟨by (with_reducible repeat (first | apply Kd.R_alloc | apply Kd.R_drewN | apply Kd.R_drew)); exact HO478.out⟩, ⟨by repeat (first | (with_reducible first | exact HB.out | apply below_alloc | apply pw_below_drewN | apply below_drew1) | exact HB.out)⟩⟩
  case round =>
    (clear H'); (try clear c1); (try clear c2); (try clear p2); (try clear c4); (obtain ⟨x7_1, x8_1, rfl, HA, HK1, HO_7, HB⟩ := hrel)
    cases gk with
    | zero => exact absurd HA.out (by simp [sawyerref15_Climb.l0])
    | succ k1 =>
      (have H := HA.out); (clear HA); (simp only [sawyerref15_Climb.l0] at H); (by_cases c6 : x8_1 < (l1.length : Int))
      · (rw [if_pos c6] at H); (have c6b0 : decide (x8_1 < (l1.length : Int)) = true := decide_eq_true c6); (clear c6); (by_cases c7 : 0 ≤ x8_1)
        · (rw [if_pos c7] at H); (have c7b0 : decide (0 ≤ x8_1) = true := decide_eq_true c7); (clear c7); (by_cases c8 : x8_1 < (x7_1.length : Int))
          · (rw [if_pos c8] at H); (have c8b0 : decide (x8_1 < (x7_1.length : Int)) = true := decide_eq_true c8); (clear c8); (obtain ⟨bq9, hbq9⟩ : ∃ b_ : Bool, b_ = (rdOf false l1 x8_1) := ⟨_, rfl⟩); (replace H : (if bq9 = true then (if x8_1 < (l2.length : Int) then ((sawyerref15_Node.f (rdOf ByteArray.empty x7_1 x8_1) (rdOf ByteArray.empty l2 x8_1)).bind fun t482 => (if x7_1.length < 8796093022208 then (sawyerref15_Climb.l0 k1 l1 l2 (x7_1 ++ [t482]) (wrap64 (x8_1 + 1))) else (none))) else (none)) else (if x8_1 < (l2.length : Int) then ((sawyerref15_Node.f (rdOf ByteArray.empty l2 x8_1) (rdOf ByteArray.empty x7_1 x8_1)).bind fun t487 => (if x7_1.length < 8796093022208 then (sawyerref15_Climb.l0 k1 l1 l2 (x7_1 ++ [t487]) (wrap64 (x8_1 + 1))) else (none))) else (none))) = some r := by rw [← hbq9] at H; exact H); (have Nbq9 := Aside0.mk hbq9); (clear hbq9); (by_cases c10 : bq9 = true)
            · (subst c10); (have H1 : (if x8_1 < (l2.length : Int) then ((sawyerref15_Node.f (rdOf ByteArray.empty x7_1 x8_1) (rdOf ByteArray.empty l2 x8_1)).bind fun t482 => (if x7_1.length < 8796093022208 then (sawyerref15_Climb.l0 k1 l1 l2 (x7_1 ++ [t482]) (wrap64 (x8_1 + 1))) else (none))) else (none)) = some r := by rw [if_pos rfl] at H; exact H); (clear H); (have H := H1); (clear H1); (by_cases c11 : x8_1 < (l2.length : Int))
              · (rw [if_pos c11] at H); (have c11b0 : decide (x8_1 < (l2.length : Int)) = true := decide_eq_true c11); (clear c11); (replace H := Option.bind_eq_some_iff.mp H); (obtain ⟨t482, A120, H⟩ := H); (replace H : (if x7_1.length < 8796093022208 then (sawyerref15_Climb.l0 k1 l1 l2 (x7_1 ++ [t482]) (wrap64 (x8_1 + 1))) else (none)) = some r := H); (have A12 := Aside0.mk A120); (clear A120); (by_cases c13 : x7_1.length < 8796093022208)
                · (rw [if_pos c13] at H); (have LMc13 := Aside0.mk c13); (clear c13); (obtain ⟨y483, hy483⟩ : ∃ y_ : List ByteArray, y_ = (x7_1 ++ [t482]) := ⟨_, rfl⟩); (replace H : (sawyerref15_Climb.l0 k1 l1 l2 y483 (wrap64 (x8_1 + 1))) = some r := by first | (rw [hy483]; with_reducible exact H) | (have H2_ := (Option.bind_some _ _).symm.trans H; rw [hy483]; with_reducible exact H2_) | (have H2_ := (Option.bind_some _ _).symm.trans H; with_reducible exact H2_) | with_reducible exact H | (rw [hy483]; exact H) | exact H); (have Ny483 := Aside0.mk hy483); (clear hy483); (have H' := Aside0.mk H); (clear H); (obtain ⟨Ao14, co14, eo14⟩ := Kd.R_slice HO_7.out); (subst eo14); (have p479 : 0 ≤ (x8_1 : Int) := of_decide_eq_true (by first | (with_reducible assumption) | assumption)); (have q479 : x8_1 < (x7_1.length : Int) := of_decide_eq_true (by first | (with_reducible assumption) | assumption)); (obtain ⟨ad479, e479, hx479_0⟩ := Kd.at_string (Kd.R_reads' HO_7.out).2.2 x8_1 p479 q479)
                  cases e479
                  (replace p479 := eq_true p479); (replace q479 := eq_true q479); (have p480 : 0 ≤ (x8_1 : Int) := of_decide_eq_true (by first | (with_reducible assumption) | assumption)); (have q480 : x8_1 < (l1.length : Int) := of_decide_eq_true (by first | (with_reducible assumption) | assumption)); (obtain ⟨ad480, e480, hx480_0⟩ := Kd.at_bool HR1.out x8_1 p480 q480); ((try rw [← Nbq9.out] at hx480_0))
                  cases e480
                  (replace hx480_0 := (HB.out.cell (World.block_lt_of_cell? w _ hx480_0)).trans hx480_0); (replace p480 := eq_true p480); (replace q480 := eq_true q480); (have p481 : 0 ≤ (x8_1 : Int) := of_decide_eq_true (by first | (with_reducible assumption) | assumption)); (have q481 : x8_1 < (l2.length : Int) := of_decide_eq_true (by first | (with_reducible assumption) | assumption)); (obtain ⟨ad481, e481, hx481_0⟩ := Kd.at_string HR2.out x8_1 p481 q481)
                  cases e481
                  (replace hx481_0 := (HB.out.cell (World.block_lt_of_cell? w _ hx481_0)).trans hx481_0); (replace p481 := eq_true p481); (replace q481 := eq_true q481); (go_wp2_with (first | ((with_reducible refine gate_callee (f := 17) rfl ?_); refine goesL_ (some 32) rfl rfl Try.func17 (by kernel_rfl) rfl #[.string (rdOf ByteArray.empty x7_1 x8_1), .string (rdOf ByteArray.empty l2 x8_1)] rfl (by (try simp only [List.map_toArray, List.map_cons, List.map_nil]); first | done | rfl | (simp only [List.length_drop, List.length_take]; rfl)) ?_; (with_reducible refine (sawyerref15_Node.calls (rdOf ByteArray.empty x7_1 x8_1) (rdOf ByteArray.empty l2 x8_1) t482 _ A12.out).mono ?_); rintro e w15 ⟨rfl, hb⟩; refine ⟨_, rfl, ?_⟩; have n0_ := Aside0.mk (Kd.R_below (by (with_reducible repeat (first | apply Kd.R_alloc | apply Kd.R_drewN | apply Kd.R_drew)); exact HO_7.out) hb); have n1_ := Aside0.mk (below_step (by repeat (first | (with_reducible first | exact HB.out | apply below_alloc | apply pw_below_drewN | apply below_drew1) | exact HB.out)) hb); clear HO_7; clear HB; have HO_7 := n0_; have HB := n1_; clear n0_ n1_; (try clear hb); (try clear hb2); (try clear hk); (try clear hi)) | ((with_reducible refine gate_builtin (b := .append) (xs := #[.tmp 26, .tmp 33]) rfl ?_); at_builtin; refine Kd.R_append Kd.string (w0 := w) w.heap.size rfl (.tmp 26) (.tmp 33) 22 9 (.string ⟨#[]⟩) 16 rfl Try.underlying22 info9 rfl (by decide) (by omega) (.slice (some ad479) x7_1.length co14) x7_1 t482 [.string t482] (fun _ => True) (fun _ => False) rfl rfl ?aP (fun _ hk => hk.elim) ?aF ?aO ?aB ?aS ?aL ?_; (case aP => exact rfl); (case aB => exact (by repeat (first | (with_reducible first | exact HB.out | apply below_alloc | apply pw_below_drewN | apply below_drew1) | exact HB.out))); (case aF => exact (fun _ _ => trivial)); (case aO => exact (by (with_reducible repeat (first | apply Kd.R_alloc | apply Kd.R_drewN | apply Kd.R_drew)); exact HO_7.out)); (case aS => exact (below_size (by repeat (first | (with_reducible first | exact HB.out | apply below_alloc | apply pw_below_drewN | apply below_drew1) | exact HB.out)))); (case aL => have := LMc13.out; omega); intro v484 w16 ho hb hg hat; rw [← Ny483.out] at ho; have n0_ := Aside0.mk (hb); have n1_ := Aside0.mk (ho); clear HB; clear HO_7; have HB := n0_; have HO485 := n1_; clear n0_ n1_; clear ho hb hg hat))); (go_roundg k1)
                  case measure => have := HK1.out; omega
                  case rel => exact ⟨(y483), (wrap64 (x8_1 + 1)), (by first | rfl | (simp; done) | (simp [*]; done)), H', ⟨by have := HK1.out; omega⟩, ⟨by (with_reducible repeat (first | apply Kd.R_alloc | apply Kd.R_drewN | apply Kd.R_drew)); exact HO485.out⟩, ⟨by repeat (first | (with_reducible first | exact HB.out | apply below_alloc | apply pw_below_drewN | apply below_drew1) | exact HB.out)⟩⟩
                focus ((rw [if_neg c13] at H); (exact absurd H (by simp)))
              focus ((rw [if_neg c11] at H); (exact absurd H (by simp)))
            · (replace c10 := Bool.eq_false_iff.mpr c10); (subst c10); (have H1 : (if x8_1 < (l2.length : Int) then ((sawyerref15_Node.f (rdOf ByteArray.empty l2 x8_1) (rdOf ByteArray.empty x7_1 x8_1)).bind fun t487 => (if x7_1.length < 8796093022208 then (sawyerref15_Climb.l0 k1 l1 l2 (x7_1 ++ [t487]) (wrap64 (x8_1 + 1))) else (none))) else (none)) = some r := by rw [if_neg (show ¬ (false = true) by decide)] at H; exact H); (clear H); (have H := H1); (clear H1); (by_cases c17 : x8_1 < (l2.length : Int))
              · (rw [if_pos c17] at H); (have c17b0 : decide (x8_1 < (l2.length : Int)) = true := decide_eq_true c17); (clear c17); (replace H := Option.bind_eq_some_iff.mp H); (obtain ⟨t487, A180, H⟩ := H); (replace H : (if x7_1.length < 8796093022208 then (sawyerref15_Climb.l0 k1 l1 l2 (x7_1 ++ [t487]) (wrap64 (x8_1 + 1))) else (none)) = some r := H); (have A18 := Aside0.mk A180); (clear A180); (by_cases c19 : x7_1.length < 8796093022208)
                · (rw [if_pos c19] at H); (have LMc19 := Aside0.mk c19); (clear c19); (obtain ⟨y488, hy488⟩ : ∃ y_ : List ByteArray, y_ = (x7_1 ++ [t487]) := ⟨_, rfl⟩); (replace H : (sawyerref15_Climb.l0 k1 l1 l2 y488 (wrap64 (x8_1 + 1))) = some r := by first | (rw [hy488]; with_reducible exact H) | (have H2_ := (Option.bind_some _ _).symm.trans H; rw [hy488]; with_reducible exact H2_) | (have H2_ := (Option.bind_some _ _).symm.trans H; with_reducible exact H2_) | with_reducible exact H | (rw [hy488]; exact H) | exact H); (have Ny488 := Aside0.mk hy488); (clear hy488); (have H' := Aside0.mk H); (clear H); (obtain ⟨Ao20, co20, eo20⟩ := Kd.R_slice HO_7.out); (subst eo20); (have p479 : 0 ≤ (x8_1 : Int) := of_decide_eq_true (by first | (with_reducible assumption) | assumption)); (have q479 : x8_1 < (x7_1.length : Int) := of_decide_eq_true (by first | (with_reducible assumption) | assumption)); (obtain ⟨ad479, e479, hx479_0⟩ := Kd.at_string (Kd.R_reads' HO_7.out).2.2 x8_1 p479 q479)
                  cases e479
                  (replace p479 := eq_true p479); (replace q479 := eq_true q479); (have p480 : 0 ≤ (x8_1 : Int) := of_decide_eq_true (by first | (with_reducible assumption) | assumption)); (have q480 : x8_1 < (l1.length : Int) := of_decide_eq_true (by first | (with_reducible assumption) | assumption)); (obtain ⟨ad480, e480, hx480_0⟩ := Kd.at_bool HR1.out x8_1 p480 q480); ((try rw [← Nbq9.out] at hx480_0))
                  cases e480
                  (replace hx480_0 := (HB.out.cell (World.block_lt_of_cell? w _ hx480_0)).trans hx480_0); (replace p480 := eq_true p480); (replace q480 := eq_true q480); (have p486 : 0 ≤ (x8_1 : Int) := of_decide_eq_true (by first | (with_reducible assumption) | assumption)); (have q486 : x8_1 < (l2.length : Int) := of_decide_eq_true (by first | (with_reducible assumption) | assumption)); (obtain ⟨ad486, e486, hx486_0⟩ := Kd.at_string HR2.out x8_1 p486 q486)
                  cases e486
                  (replace hx486_0 := (HB.out.cell (World.block_lt_of_cell? w _ hx486_0)).trans hx486_0); (replace p486 := eq_true p486); (replace q486 := eq_true q486); (go_wp2_with (first | ((with_reducible refine gate_callee (f := 17) rfl ?_); refine goesL_ (some 41) rfl rfl Try.func17 (by kernel_rfl) rfl #[.string (rdOf ByteArray.empty l2 x8_1), .string (rdOf ByteArray.empty x7_1 x8_1)] rfl (by (try simp only [List.map_toArray, List.map_cons, List.map_nil]); first | done | rfl | (simp only [List.length_drop, List.length_take]; rfl)) ?_; (with_reducible refine (sawyerref15_Node.calls (rdOf ByteArray.empty l2 x8_1) (rdOf ByteArray.empty x7_1 x8_1) t487 _ A18.out).mono ?_); rintro e w21 ⟨rfl, hb⟩; refine ⟨_, rfl, ?_⟩; have n0_ := Aside0.mk (Kd.R_below (by (with_reducible repeat (first | apply Kd.R_alloc | apply Kd.R_drewN | apply Kd.R_drew)); exact HO_7.out) hb); have n1_ := Aside0.mk (below_step (by repeat (first | (with_reducible first | exact HB.out | apply below_alloc | apply pw_below_drewN | apply below_drew1) | exact HB.out)) hb); clear HO_7; clear HB; have HO_7 := n0_; have HB := n1_; clear n0_ n1_; (try clear hb); (try clear hb2); (try clear hk); (try clear hi)) | ((with_reducible refine gate_builtin (b := .append) (xs := #[.tmp 35, .tmp 42]) rfl ?_); at_builtin; refine Kd.R_append Kd.string (w0 := w) w.heap.size rfl (.tmp 35) (.tmp 42) 22 9 (.string ⟨#[]⟩) 16 rfl Try.underlying22 info9 rfl (by decide) (by omega) (.slice (some ad479) x7_1.length co20) x7_1 t487 [.string t487] (fun _ => True) (fun _ => False) rfl rfl ?aP (fun _ hk => hk.elim) ?aF ?aO ?aB ?aS ?aL ?_; (case aP => exact rfl); (case aB => exact (by repeat (first | (with_reducible first | exact HB.out | apply below_alloc | apply pw_below_drewN | apply below_drew1) | exact HB.out))); (case aF => exact (fun _ _ => trivial)); (case aO => exact (by (with_reducible repeat (first | apply Kd.R_alloc | apply Kd.R_drewN | apply Kd.R_drew)); exact HO_7.out)); (case aS => exact (below_size (by repeat (first | (with_reducible first | exact HB.out | apply below_alloc | apply pw_below_drewN | apply below_drew1) | exact HB.out)))); (case aL => have := LMc19.out; omega); intro v489 w22 ho hb hg hat; rw [← Ny488.out] at ho; have n0_ := Aside0.mk (hb); have n1_ := Aside0.mk (ho); clear HB; clear HO_7; have HB := n0_; have HO490 := n1_; clear n0_ n1_; clear ho hb hg hat))); (go_roundg k1)
                  case measure => have := HK1.out; omega
                  case rel => exact ⟨(y488), (wrap64 (x8_1 + 1)), (by first | rfl | (simp; done) | (simp [*]; done)), H', ⟨by have := HK1.out; omega⟩, ⟨by (with_reducible repeat (first | apply Kd.R_alloc | apply Kd.R_drewN | apply Kd.R_drew)); exact HO490.out⟩, ⟨by repeat (first | (with_reducible first | exact HB.out | apply below_alloc | apply pw_below_drewN | apply below_drew1) | exact HB.out)⟩⟩
                focus ((rw [if_neg c19] at H); (exact absurd H (by simp)))
              focus ((rw [if_neg c17] at H); (exact absurd H (by simp)))
          focus ((rw [if_neg c8] at H); (exact absurd H (by simp)))
        focus ((rw [if_neg c7] at H); (exact absurd H (by simp)))
      focus ((rw [if_neg c6] at H); (have c6b0 : decide (x8_1 < (l1.length : Int)) = false := decide_eq_false c6); (clear c6); (obtain rfl := Option.some.inj H); (go_wp2); (go_ret); (exact ⟨_, by first | rfl | (simp [errW_none, errW_some] <;> rfl) | (simp [*, errW_none, errW_some] <;> rfl), by (with_reducible repeat (first | apply Kd.R_alloc | apply Kd.R_drewN | apply Kd.R_drew)); exact HO_7.out, by repeat (first | (with_reducible first | exact HB.out | apply below_alloc | apply pw_below_drewN | apply below_drew1) | exact HB.out)⟩))
end Go.Proofs.Ytkbbdbnjplcjdaa.F
end
