-- JOINED BY A PROGRAM OF THIS PLACE (wip/tools/pack.py) out of: SpKeeps
import Derived.Test.YtoihdghoopgdfaaQ10
import Derived.Test.YtoihdghoopgdfaaQ13
import Derived.Test.YtoihdghoopgdfaaQ25
section
/-
  SpanKeeps answers true for every leaves and every two more: a push turns nothing of the old span.
-/
namespace Go.Proofs.Ytoihdghoopgdfaa
open Go.RowKit Go.Proofs.YtoihdghoopgdfaaW.PrintWords Go.Proofs.YtoihdghoopgdfaaW.PrintLast Go.Proofs.YtoihdghoopgdfaaW.PrintMore
set_option linter.unusedVariables false
set_option linter.unusedSimpArgs false
def kp9_T : Bool × List (List Nat × List Nat) := (true, [([], []), ([], []), ([1], [1]), ([0, 2, 2], [0, 2]), ([3], [3]), ([4], [4]), ([4], [4]), ([], []), ([7, 5, 3, 0, 1, 2, 3, 4, 5, 7], [5, 7]), ([6, 8, 0, 1, 2, 3, 4, 5, 6, 7, 8], [6])])
def kp9_B : List Nat := [0, 0, 2, 7, 15, 31, 31, 0, 191, 511]
theorem kp9_tab : rtab .any (opsOf Try.f4 9) = kp9_T := by kernel_rfl
theorem kp9_bits : waitsOk kp9_T.2 kp9_B = true := by kernel_rfl
def kp10_T : Bool × List (List Nat × List Nat) := (true, [([], []), ([], []), ([1], [1]), ([0, 2, 2], [0, 2]), ([3], [3]), ([4], [4]), ([4], [4]), ([], []), ([7, 5, 3, 0, 1, 2, 3, 4, 5, 7], [5, 7]), ([6, 8, 0, 1, 2, 3, 4, 5, 6, 7, 8], [6])])
def kp10_B : List Nat := [0, 0, 2, 7, 15, 31, 31, 0, 191, 511]
theorem kp10_tab : rtab .any (opsOf Try.f4 10) = kp10_T := by kernel_rfl
theorem kp10_bits : waitsOk kp10_T.2 kp10_B = true := by kernel_rfl
def kp11_T : Bool × List (List Nat × List Nat) := (true, [([], []), ([], []), ([1], [1]), ([0, 2, 2], [0, 2]), ([3], [3]), ([4], [4]), ([4], [4]), ([], []), ([7, 5, 3, 0, 1, 2, 3, 4, 5, 7], [5, 7]), ([6, 8, 0, 1, 2, 3, 4, 5, 6, 7, 8], [6])])
def kp11_B : List Nat := [0, 0, 2, 7, 15, 31, 31, 0, 191, 511]
theorem kp11_tab : rtab .any (opsOf Try.f4 11) = kp11_T := by kernel_rfl
theorem kp11_bits : waitsOk kp11_T.2 kp11_B = true := by kernel_rfl
def kp12_T : Bool × List (List Nat × List Nat) := (true, [([], []), ([0], [0]), ([1], [1]), ([2, 1], [1, 2]), ([1, 3], [1, 3]), ([4, 1], [4]), ([5], [5]), ([6, 5], [5, 6]), ([5, 7], [5, 7]), ([8, 5], [8]), ([9], [9]), ([10, 9], [9, 10]), ([9, 11], [9, 11]), ([12, 9], [12]), ([13], [13]), ([14, 13], [13, 14]), ([13, 15], [13, 15]), ([16, 13], [16]), ([17], [17]), ([17], [17]), ([19, 17], [17, 19]), ([18, 20, 17, 17], [17, 18, 20]), ([17, 21], [17, 21]), ([22, 21], [22]), ([23], [23]), ([24, 23, 23], [23, 24]), ([23], [23]), ([26, 25, 23], [23, 26]), ([25, 27, 27, 23], [23, 25, 27]), ([23, 28], [23, 28]), ([29, 28], [29]), ([30], [30]), ([31, 30], [30, 31]), ([30], [30]), ([33, 30], [30, 33]), ([34, 30], [30, 34]), ([32, 35, 30], [30, 32, 35]), ([30, 36], [30, 36]), ([37, 30, 0, 1, 2, 3, 4, 5, 6, 7, 8, 9, 10, 11, 12, 13, 14, 15, 16, 17, 18, 19, 20, 21, 22, 23, 24, 25, 26, 27, 28, 29, 30, 31, 32, 33, 34, 35, 36, 37], [37])])
def kp12_B : List Nat := [0, 1, 3, 7, 15, 31, 63, 127, 255, 511, 1023, 2047, 4095, 8191, 16383, 32767, 65535, 131071, 262143, 262143, 786431, 2097151, 4194303, 8388607, 16777215, 33554431, 16777215, 117440511, 268435455, 536870911, 1073741823, 2147483647, 4294967295, 2147483647, 10737418239, 27917287423, 68719476735, 137438953471, 274877906943]
theorem kp12_tab : rtab .any (opsOf Try.f4 12) = kp12_T := by kernel_rfl
theorem kp12_bits : waitsOk kp12_T.2 kp12_B = true := by kernel_rfl
theorem row_at {w : World} {A : Option Addr} {ks : List (List Int)} (h : Kd.C (Kd.slice 5 (Kd.int .u8)) w A ks.length ks) (i : Nat) (hi : i < ks.length) :
    ∃ ad A' c', A = some ad ∧ w.cell? (ad.add i) = some (.slice A' (ks.getD i []).length c') ∧ (ks.getD i []).length ≤ c' ∧ Kd.C (Kd.int .u8) w A' (ks.getD i []).length (ks.getD i []) := by
  obtain ⟨_, hn, hc0⟩ := h
  obtain ⟨ad, rfl, hc⟩ := hc0 (by omega)
  obtain ⟨c, hcl, ⟨A', c', rfl, hle, hC⟩, hcc⟩ := hc i _ (List.getElem?_eq_getElem hi)
  have := hcc 0 _ rfl
  rw [show (Kd.slice 5 (Kd.int .u8)).sz = 1 from rfl, Nat.mul_one, Nat.add_zero] at this
  have e : ks.getD i [] = ks[i] := by rw [List.getD_eq_getElem?_getD, List.getElem?_eq_getElem hi]; rfl
  rw [e]
  exact ⟨ad, A', c', rfl, this, hle, hC⟩
section
variable {ops : Array Oper} {o : Oper} {a : Act} {Q : Exit → Act → World → Prop} {Kc : Act → World → Prop}
theorem allocSp_step {W : World} (hw : Region.wanted o (yielded ops a.tmps) = true) {N : Tmp} (hd : o.dst = some N) (ho : o.op = .alloc 26)
    (h : Kc (a.put (some N) (.pointer (some ⟨W.heap.size, 0, none⟩))) (W.alloc (.cells #[.int .i64 0, .slice none 0 0] 26))) :
    if Region.wanted o (yielded ops a.tmps) = true then Oper.wp Try.prog o a W Kc Q else Kc (a.put (some N) undef) W := by
  rw [← hd] at h ⊢
  refine event_step hw ?_ h
  obtain ⟨dst, op, ty, pos, after, guard⟩ := o
  subst ho
  go_simp
end
def lvs (l : List (List Int)) (j : Nat) : List ByteArray := (l.take j).map Hs.leaf
theorem lvs_length (l : List (List Int)) (j : Nat) : (lvs l j).length = min j l.length := by simp [lvs]
theorem lvs_sized (l : List (List Int)) (j : Nat) : Sp.sized (lvs l j) := by
  intro x hx
  obtain ⟨i, _, rfl⟩ := List.mem_map.1 hx
  exact Hs.leaf_size _
theorem lvs_succ (l : List (List Int)) (j : Nat) (h : j < l.length) : lvs l (j + 1) = lvs l j ++ [Hs.leaf (l.getD j [])] := by
  unfold lvs
  rw [List.take_succ_eq_append_getElem h, List.map_append, List.getD_eq_getElem?_getD, List.getElem?_eq_getElem h]
  rfl
set_option maxRecDepth 100000 in
set_option maxHeartbeats 32000000 in
theorem keeps_walk (A0 : Option Addr) (c0 : Nat) (l : List (List Int)) (A1 : Option Addr) (c1 : Nat) (la : List Int) (A2 : Option Addr) (c2 : Nat) (lb : List Int) (w : World)
    (hr : Kd.C (Kd.slice 5 (Kd.int .u8)) w A0 l.length l) (hc : l.length ≤ c0) (hra : Kd.C (Kd.int .u8) w A1 la.length la) (hca : la.length ≤ c1) (hrb : Kd.C (Kd.int .u8) w A2 lb.length lb) (hcb : lb.length ≤ c2)
    (hk : ∀ r ∈ l, r.length ≤ 140737488354000) (hkb : ∀ r ∈ l, ∀ x ∈ r, 0 ≤ x ∧ x < 256) (ha : la.length ≤ 140737488354000) (hab : ∀ x ∈ la, 0 ≤ x ∧ x < 256) (hb : lb.length ≤ 140737488354000) (hbb : ∀ x ∈ lb, 0 ≤ x ∧ x < 256) :
    Calls Try.prog 4 #[.slice A0 l.length c0, .slice A1 la.length c1, .slice A2 lb.length c2] w fun e w' => e = .returned (.bool true) ∧ Below w.heap.size w w' := by
  have HR := Lib.hid hr
  have HC := Lib.hid hc
  have HRA := Lib.hid hra
  have HLA := Lib.hid hca
  have HRB := Lib.hid hrb
  have HLB := Lib.hid hcb
  obtain ⟨ya, hya⟩ : ∃ y, y = Hs.leaf la := ⟨_, rfl⟩
  obtain ⟨yb, hyb⟩ : ∃ y, y = Hs.leaf lb := ⟨_, rfl⟩
  have HSA : Hid (F.hash_Leaf.f la = some ya) := Lib.hid (by rw [hya]; exact F.leaf_some la hab ha)
  have HSB : Hid (F.hash_Leaf.f lb = some yb) := Lib.hid (by rw [hyb]; exact F.leaf_some lb hbb hb)
  have H32a : Hid (ya.size = 32) := Lib.hid (by rw [hya]; exact Hs.leaf_size _)
  have H32b : Hid (yb.size = 32) := Lib.hid (by rw [hyb]; exact Hs.leaf_size _)
  have HK : Hid (∀ j, j < l.length → F.hash_Leaf.f (l.getD j []) = some (Hs.leaf (l.getD j []))) := Lib.hid (fun j hj => by
    have hm : l.getD j [] ∈ l := by rw [List.getD_eq_getElem?_getD, List.getElem?_eq_getElem hj]; exact List.getElem_mem hj
    exact F.leaf_some _ (hkb _ hm) (hk _ hm))
  obtain ⟨n, hn⟩ : ∃ n, n = l.length := ⟨_, rfl⟩
  have HN := Lib.hid hn
  have hnm : (n : Int) ≤ 9223372036854775807 := by have := hr.2.1; omega
  rw [← hn]
  clear hr hc hra hca hrb hcb hk hkb ha hab hb hbb hya hyb hn
  go_enter Try.func4, Try.ntmps4
  go_wp2_with fail
  refine (awake16_calls w).mono ?_
  rintro e w1 ⟨rfl, hb1⟩
  have HB1 := Lib.hid hb1
  clear hb1
  go_wp2
  go_loopw [8, 9] (fun v i wr => ∃ (j : Nat) (A : Option Addr) (c : Nat) (q : List ByteArray), j ≤ n ∧ j ≤ 40 ∧ i = .int .i64 j ∧ v = .slice A q.length c ∧ q = lvs l j ∧ OwnT wr w.heap.size (.slice A q.length c) q ∧ Below w.heap.size w wr) (fun _ i _ => 40 - (intOf i).toNat)
  case atStart => exact ⟨0, none, 0, [], by omega, by omega, by go_num, rfl, rfl, Kd.R_nil _ _ _ _ _, HB1.out⟩
  case round =>
    obtain ⟨j, A, c, q, hj, hj40, rfl, rfl, hq, ho, hb⟩ := hrel
    obtain ⟨wz, rfl⟩ : ∃ wz, wz = wr := ⟨_, rfl⟩
    have hql : q.length = j := by rw [hq, lvs_length, ← HN.out]; omega
    have HQ := Lib.hid hq
    have HQL := Lib.hid hql
    have HO := Lib.hid ho
    have HB := Lib.hid hb
    have hw := hb.size
    clear hq ho hb hql HB1
    by_cases hlt : j < n ∧ j < 40
    · obtain ⟨hl1, hl2⟩ := hlt
      obtain ⟨ad, A', c', rfl, hcell, hle, hC⟩ := row_at (Kd.C_below HR.out HB.out) j (by rw [← HN.out]; exact hl1)
      have HSJ := Lib.hid (HK.out j (by rw [← HN.out]; exact hl1))
      obtain ⟨rw_, hrw⟩ : ∃ r, r = l.getD j [] := ⟨_, rfl⟩
      rw [← hrw] at hcell hle hC HSJ
      have HRW := Lib.hid hrw
      have HLE := Lib.hid hle
      have HCR := Lib.hid hC
      have i0 : (0 : Int) ≤ (j : Int) := by omega
      have i1 : (j : Int) < (n : Int) := by omega
      have i2 : (j : Int) < 40 := by omega
      have t1 : decide ((j : Int) < (n : Int)) = true := by simpa using hl1
      have t2 : decide ((j : Int) < 40) = true := by simpa using i2
      clear hrw hle hC
      go_wp2_with fail
      refine (F.hash_Leaf.calls A' c' rw_ (Hs.leaf rw_) wz HCR.out HLE.out HSJ.out).mono ?_
      rintro e w2 ⟨rfl, hb2⟩
      have HO1 := Lib.hid (ownT_below HO.out hb2)
      have HB2 := Lib.hid (below_then HB.out HB.out.size hb2)
      have hw2 := HB2.out.size
      clear hb2
      go_wp2_with (first | (at_builtin; refine appT_one (w0 := w) w.heap.size rfl (.tmp 30) (.tmp 36) rfl (.slice A q.length c) q _ rfl rfl HO1.out HB2.out hw2 (by have := HQL.out; omega) ?_; intro v3 w3 ho3 hb3 _ _; obtain ⟨A3, c3, rfl⟩ := Kd.R_slice ho3; have HO3 := Lib.hid ho3; have HB3 := Lib.hid hb3; clear ho3 hb3) | fail)
      go_roundw
      case rel => exact ⟨j + 1, A3, c3, q ++ [Hs.leaf rw_], by omega, by omega, by go_num, by simp, by rw [lvs_succ l j (by rw [← HN.out]; exact hl1), HQ.out, HRW.out], HO3.out, HB3.out⟩
      case measure => simp [intOf]; omega
    · have hm40 : j = n ∨ (j = 40 ∧ j < n) := by omega
      have HM40 := Lib.hid hm40
      obtain ⟨m, hm⟩ : ∃ m, m = q.length := ⟨_, rfl⟩
      have HM := Lib.hid hm
      have hmle : m ≤ 40 := by rw [hm, HQL.out]; exact hj40
      have hqs : Sp.sized q := by rw [HQ.out]; exact lvs_sized _ _
      obtain ⟨kof, hkof⟩ := (F.of_ev q hqs (by omega)).rounds
      rw [← hm] at hkof
      obtain ⟨N, hN⟩ : ∃ N, N = Sp.nodes q := ⟨_, rfl⟩
      obtain ⟨Pa, hPa⟩ : ∃ P, P = Sp.nodes (q ++ [ya]) := ⟨_, rfl⟩
      obtain ⟨Pb, hPb⟩ : ∃ P, P = Sp.nodes (q ++ [yb]) := ⟨_, rfl⟩
      have hpa := Sp.pushed_nodes q ya hqs (by omega) H32a.out
      have hpb := Sp.pushed_nodes q yb hqs (by omega) H32b.out
      rw [List.length_append, ← hm, ← hN, ← hPa, show ([ya] : List ByteArray).length = 1 from rfl, Int.natCast_add] at hpa
      rw [List.length_append, ← hm, ← hN, ← hPb, show ([yb] : List ByteArray).length = 1 from rfl, Int.natCast_add] at hpb
      rw [← hN] at hkof
      have hPl : Pa.length ≤ 65 := by have := pushed_short (m : Int) N ya; rwa [hpa] at this
      have hNl : N.length ≤ 64 := by have := F.spanOk_short (Sp.nodes_ok q hqs (by omega)); rw [← hN] at this; exact this.2
      obtain ⟨ks, hks⟩ := (F.same16_ev ((m : Int) + 1) Pa (by omega)).rounds
      obtain ⟨kt, hkt⟩ := (F.same_some N (by omega)).rounds
      have HPUa := Lib.hid (show span_Push.f (m : Int) N ya = some ((m : Int) + 1, Pa, 0) from congrArg some hpa)
      have HPUb := Lib.hid (show span_Push.f (m : Int) N yb = some ((m : Int) + 1, Pb, 0) from congrArg some hpb)
      have HPUc := HPUa
      have HKO := Lib.hid hkof
      have HKS := Lib.hid hks
      have HKT := Lib.hid hkt
      have HNL := Lib.hid hNl
      have hmm : IntKind.i64.wrap ((m : Int) + 1) = (m : Int) + 1 := IntWalk.i64_in _ (by omega)
      have m0 : (0 : Int) ≤ (m : Int) := by omega
      have m1 : (m : Int) ≤ 40 := by omega
      have t3 : ¬ ((j : Int) < (n : Int) ∧ (j : Int) < 40) := by omega
      have HQC := Lib.hid (Kd.R_reads' HO.out)
      rw [← hm]
      clear hm hqs hkof hN hPa hPb hpa hpb hPl hNl hks hkt hlt hmle
      rcases hm40 with rfl | ⟨rfl, h40⟩
      have t1 : decide ((j : Int) < (j : Int)) = false := by simp
      rotate_left
      have t1 : decide ((40 : Int) < (n : Int)) = true := by simp; omega
      all_goals
        go_wp2_with fail
        have hOf := F.span_Of.calls kof A c q (m : Int) N 0 wz HQC.out.2.2 HQC.out.2.1 HKO.out
        rw [← HM.out] at hOf
        refine hOf.mono ?_
        rintro e w3 ⟨v3, rfl, ho3, hb3⟩
        obtain ⟨As, cs, rfl⟩ := Kd.R_slice ho3
        have HR3 := Lib.hid (Kd.R_reads' ho3)
        have HB3 := Lib.hid (below_then HB.out HB.out.size hb3)
        have hw3 := HB3.out.size
        clear hOf ho3 hb3
        have hb3x : Below w3.heap.size w3 (w3.alloc (.cells #[.int .i64 (m : Int), .slice As N.length cs] 26)) := (Below.refl _ _).alloc (Nat.le_refl _) _
        have HGX : Hid (((w3.alloc (.cells #[.int .i64 (m : Int), .slice As N.length cs] 26))).heap[w3.heap.size]? = some (.cells #[.int .i64 (m : Int), .slice As N.length cs] 26 (0, 0))) := Lib.hid (blk_new w3 _)
        have HBX := Lib.hid (below_then HB3.out HB3.out.size hb3x)
        have HPX := Lib.hid (Kd.C_below HR3.out.2.2 hb3x)
        have HLN := Lib.hid HR3.out.2.1
        have HDX := Lib.hid hb3x
        clear hb3x HR3
        go_wp2_with (first
          | (refine litT_none (w0 := (w3.alloc (.cells #[.int .i64 (m : Int), .slice As N.length cs] 26))) (N := 43) ((w3.alloc (.cells #[.int .i64 (m : Int), .slice As N.length cs] 26))).heap.size rfl rfl rfl (Below.refl _ _) (Nat.le_refl _) ?_; intro v5 w5 ho5 hb5 hg5; have HO5 := Lib.hid ho5; have HB5 := Lib.hid hb5; have HP5 := Lib.hid (Kd.C_below HPX.out hb5); have cy1 : w5.cell? ⟨w3.heap.size, 1, none⟩ = some (.slice As N.length cs) := (by rw [blk_cell ((hb5.block _ (blk_lt HGX.out)).trans HGX.out)]; rfl); clear ho5 hb5 hg5)
          | (at_builtin; refine appT_row (w0 := (w3.alloc (.cells #[.int .i64 (m : Int), .slice As N.length cs] 26))) ((w3.alloc (.cells #[.int .i64 (m : Int), .slice As N.length cs] 26))).heap.size rfl (.tmp 43) (.tmp 45) rfl v5 [] N As _ cs rfl rfl HO5.out HP5.out HB5.out HB5.out.size (by have := HNL.out; simp; omega) ?_; intro v6 w6 ho6 hb6 hg6 _; rw [List.nil_append] at ho6; obtain ⟨A6, c6, rfl⟩ := Kd.R_slice ho6; have HOF := Lib.hid (Kd.R_reads' ho6); have HB6 := Lib.hid hb6; clear ho6 hb6 hg6 cy1)
          | fail)
        have HG_ := Lib.hid ((HB6.out.block _ (blk_lt HGX.out)).trans HGX.out)
        have HPN := Lib.hid (Kd.C_below HPX.out HB6.out)
        have HB_ := Lib.hid (below_then HBX.out HBX.out.size HB6.out)
        clear HB3 HGX HBX HPX HDX HB5 HP5 HO5 HB6
        generalize w3.heap.size = gs at *
        have HPUx := HPUa
        have HPUy := HPUb
        have HPUz := HPUc
        have HOQ := Lib.hid HM.out
        clear HPUa HPUb HPUc
        have c0_ : w6.cell? ⟨gs, 0, none⟩ = some (.int .i64 (m : Int)) := by rw [blk_cell HG_.out]; rfl
        have c1_ : w6.cell? ⟨gs, 1, none⟩ = some (.slice As N.length cs) := by rw [blk_cell HG_.out]; rfl
        refine start_ (n := 10) (S := fun w' => w'.cell? ⟨gs, 0, none⟩ = some (.int .i64 (m : Int)) ∧ w'.cell? ⟨gs, 1, none⟩ = some (.slice As N.length cs)) (ds := []) #[false, false, false, false, false, false, false, false, false, false] (by kernel_rfl) rfl rfl ⟨by rw [World.cell?_drew]; exact c0_, by rw [World.cell?_drew]; exact c1_⟩ (fun hHeld => ?_); refine with_tabW kp9_tab kp9_bits (fun HT_ HW_ => ?_)
        have HDV := Lib.hid (below_drew1 (Below.refl w6.heap.size w6))
        clear c0_ c1_
        generalize w6.drew = Vx at *
        have HS := Lib.hid hHeld
        have HPV := Lib.hid (Kd.C_below HPN.out HDV.out)
        have HRV := Lib.hid (Kd.C_below (Kd.C_below HRA.out HB_.out) HDV.out)
        refine take_ (i := 0) (N := some 48) (v := ?_) (a' := ?_) #[true, false, false, false, false, false, false, false, false, false] rfl rfl (take_ofW HT_.out HW_.out (by kernel_rfl)) (fun _ _ _ h => h) (Or.inl ⟨by rfl, ?_⟩) hHeld ?_ ?_
        rotate_left
        · rintro w' ⟨s0, s1⟩
          go_simp
          with_reducible rfl
        rotate_left
        · simp only [Act.put, List.setIfInBounds_toArray, List.set_cons_zero, List.set_cons_succ, i64_w, i32_w]
          rfl
        refine pure_ (i := 1) (N := some 49) (v := ?_) (a' := ?_) #[true, true, false, false, false, false, false, false, false, false] rfl rfl (any_of HT_.out (by kernel_rfl)) (fun _ _ _ h => h) (Or.inl ⟨by rfl, ?_⟩) ?_ ?_
        rotate_left
        · intro w'
          go_simp
          with_reducible rfl
        rotate_left
        · simp only [Act.put, List.setIfInBounds_toArray, List.set_cons_zero, List.set_cons_succ, i64_w, i32_w]
          rfl
        refine join_ (σ := (Option Addr × Nat) × Nat) 2 #[true, true, true, true, true, true, true, true, false, false] (fun s => [(50, .string ya), (51, .tuple #[.agg #[.int .i64 ((m : Int) + 1), .slice s.1.1 Pa.length s.1.2], .int .i64 0]), (47, .tuple #[.agg #[.int .i64 ((m : Int) + 1), .slice s.1.1 Pa.length s.1.2], .int .i64 0]), (52, .agg #[.int .i64 ((m : Int) + 1), .slice s.1.1 Pa.length s.1.2]), (53, .int .i64 0), (13, .pointer (some ⟨s.2, 0, none⟩))]) (fun s w' => OwnT w' Vx.heap.size (.slice s.1.1 Pa.length s.1.2) Pa ∧ w'.heap[s.2]? = some (.cells #[.int .i64 0, .slice none 0 0] 26 (0, 0)) ∧ Vx.heap.size ≤ s.2 ∧ Below Vx.heap.size Vx w') ?_ (fun hcont => ?_)
        rotate_left
        · refine two_ (i := 2) (j := 7) (Ni := some 50) (Nj := some 13) #[true, true, true, false, false, false, false, false, false, false] #[true, true, false, false, false, false, false, true, false, false] rfl rfl rfl rfl (two_of HT_.out (by kernel_rfl)) (by decide) (by decide) ?_ ?_
          · intro K hK
            refine goes_ Try.func18 (by kernel_rfl) rfl #[.slice A1 la.length c1] (by rfl) rfl rfl (by simp only [List.map_toArray, List.map_cons, List.map_nil]; rfl) ?_
            refine (F.hash_Leaf.calls A1 c1 la ya Vx (Kd.C_below HRV.out (Below.refl Vx.heap.size Vx)) HLA.out HSA.out).mono ?_
            rintro e W2 ⟨rfl, hD⟩
            refine ⟨_, rfl, ?_⟩
            have b2 := below_then (Below.refl Vx.heap.size Vx) ((Below.refl Vx.heap.size Vx)).size hD
            refine hK.out _ _ ⟨pw_cell_below b2 HS.out.1, pw_cell_below b2 HS.out.2⟩ (fun hHeld => ?_)
            clear hD
            clear hK K
            refine norm_ (a' := ?_) ?_ ?_
            rotate_left
            · show Act.put _ (some 50) _ = _
              simp only [Act.put, List.setIfInBounds_toArray, List.set_cons_zero, List.set_cons_succ, i64_w, i32_w]
              rfl
            refine two_ (i := 3) (j := 7) (Ni := some 51) (Nj := some 13) #[true, true, true, true, false, false, false, false, false, false] #[true, true, true, false, false, false, false, true, false, false] rfl rfl rfl rfl (two_of HT_.out (by kernel_rfl)) (by decide) (by decide) ?_ ?_
            · intro K hK
              refine goes_ Try.func9 (by kernel_rfl) rfl #[.agg #[.int .i64 (m : Int), .slice As N.length cs], .string ya] (by rfl) rfl rfl (by simp only [List.map_toArray, List.map_cons, List.map_nil]; rfl) ?_
              refine (span_Push.calls (m : Int) As cs N ya ((m : Int) + 1) Pa 0 W2 (Kd.C_below HPV.out b2) HLN.out HPUx.out).mono ?_
              rintro e W3 ⟨v3, rfl, ho3, hD⟩
              obtain ⟨A3, c3, rfl⟩ := Kd.R_slice ho3
              have f3 : OwnT W3 Vx.heap.size (.slice A3 Pa.length c3) Pa := Kd.R_lower ho3 (b2).size
              clear ho3
              refine ⟨_, rfl, ?_⟩
              have b3 := below_then b2 (b2).size hD
              refine hK.out _ _ ⟨pw_cell_below b3 HS.out.1, pw_cell_below b3 HS.out.2⟩ (fun hHeld => ?_)
              clear hD
              clear hK K
              refine norm_ (a' := ?_) ?_ ?_
              rotate_left
              · show Act.put _ (some 51) _ = _
                simp only [Act.put, List.setIfInBounds_toArray, List.set_cons_zero, List.set_cons_succ, i64_w, i32_w]
                rfl
              refine pure_ (i := 4) (N := some 47) (v := ?_) (a' := ?_) #[true, true, true, true, true, false, false, false, false, false] rfl rfl (any_of HT_.out (by kernel_rfl)) (fun _ _ _ h => h) (Or.inl ⟨by rfl, ?_⟩) ?_ ?_
              rotate_left
              · intro w'
                go_simp
                with_reducible rfl
              rotate_left
              · simp only [Act.put, List.setIfInBounds_toArray, List.set_cons_zero, List.set_cons_succ, i64_w, i32_w]
                rfl
              refine pure_ (i := 5) (N := some 52) (v := ?_) (a' := ?_) #[true, true, true, true, true, true, false, false, false, false] rfl rfl (any_of HT_.out (by kernel_rfl)) (fun _ _ _ h => h) (Or.inl ⟨by rfl, ?_⟩) ?_ ?_
              rotate_left
              · intro w'
                go_simp
                with_reducible rfl
              rotate_left
              · simp only [Act.put, List.setIfInBounds_toArray, List.set_cons_zero, List.set_cons_succ, i64_w, i32_w]
                rfl
              refine pure_ (i := 6) (N := some 53) (v := ?_) (a' := ?_) #[true, true, true, true, true, true, true, false, false, false] rfl rfl (any_of HT_.out (by kernel_rfl)) (fun _ _ _ h => h) (Or.inl ⟨by rfl, ?_⟩) ?_ ?_
              rotate_left
              · intro w'
                go_simp
                with_reducible rfl
              rotate_left
              · simp only [Act.put, List.setIfInBounds_toArray, List.set_cons_zero, List.set_cons_succ, i64_w, i32_w]
                rfl
              refine one_ (i := 7) (N := some 13) #[true, true, true, true, true, true, true, true, false, false] rfl rfl (one_of HT_.out (by kernel_rfl)) (by decide) (fun K hK => ?_)
              refine allocSp_step (by rfl) rfl rfl ?_
              obtain ⟨W7, hW7⟩ : ∃ X, X = W3.alloc (.cells #[.int .i64 0, .slice none 0 0] 26) := ⟨_, rfl⟩
              have hD : Below W3.heap.size W3 W7 := by rw [hW7]; exact (Below.refl _ _).alloc (Nat.le_refl _) _
              have f7 : W7.heap[W3.heap.size]? = some (.cells #[.int .i64 0, .slice none 0 0] 26 (0, 0)) := by rw [hW7]; exact blk_new _ _
              obtain ⟨g7, hg7⟩ : ∃ g, g = W3.heap.size := ⟨_, rfl⟩
              have e7 : Vx.heap.size ≤ g7 := by rw [hg7]; exact (b3).size
              rw [← hW7, ← hg7]
              rw [← hg7] at f7
              clear hW7 hg7
              have b7 := below_then b3 (b3).size hD
              replace f3 := ownT_below f3 hD
              refine hK.out _ _ ⟨pw_cell_below b7 HS.out.1, pw_cell_below b7 HS.out.2⟩ (fun hHeld => ?_)
              clear hD
              clear hK K
              refine norm_ (a' := ?_) ?_ ?_
              rotate_left
              · show Act.put _ (some 13) _ = _
                simp only [Act.put, List.setIfInBounds_toArray, List.set_cons_zero, List.set_cons_succ, i64_w, i32_w]
                rfl
              refine norm_ (a' := putAll _ [(50, .string ya), (51, .tuple #[.agg #[.int .i64 ((m : Int) + 1), .slice A3 Pa.length c3], .int .i64 0]), (47, .tuple #[.agg #[.int .i64 ((m : Int) + 1), .slice A3 Pa.length c3], .int .i64 0]), (52, .agg #[.int .i64 ((m : Int) + 1), .slice A3 Pa.length c3]), (53, .int .i64 0), (13, .pointer (some ⟨g7, 0, none⟩))]) ?_ (hcont ((A3, c3), g7) W7 ⟨f3, f7, e7, b7⟩)
              rfl
            · intro K hK
              refine allocSp_step (by rfl) rfl rfl ?_
              obtain ⟨W7, hW7⟩ : ∃ X, X = W2.alloc (.cells #[.int .i64 0, .slice none 0 0] 26) := ⟨_, rfl⟩
              have hD : Below W2.heap.size W2 W7 := by rw [hW7]; exact (Below.refl _ _).alloc (Nat.le_refl _) _
              have f7 : W7.heap[W2.heap.size]? = some (.cells #[.int .i64 0, .slice none 0 0] 26 (0, 0)) := by rw [hW7]; exact blk_new _ _
              obtain ⟨g7, hg7⟩ : ∃ g, g = W2.heap.size := ⟨_, rfl⟩
              have e7 : Vx.heap.size ≤ g7 := by rw [hg7]; exact (b2).size
              rw [← hW7, ← hg7]
              rw [← hg7] at f7
              clear hW7 hg7
              have b7 := below_then b2 (b2).size hD
              refine hK.out _ _ ⟨pw_cell_below b7 HS.out.1, pw_cell_below b7 HS.out.2⟩ (fun hHeld => ?_)
              clear hD
              clear hK K
              refine norm_ (a' := ?_) ?_ ?_
              rotate_left
              · show Act.put _ (some 13) _ = _
                simp only [Act.put, List.setIfInBounds_toArray, List.set_cons_zero, List.set_cons_succ, i64_w, i32_w]
                rfl
              refine one_ (i := 3) (N := some 51) #[true, true, true, true, false, false, false, true, false, false] rfl rfl (one_of HT_.out (by kernel_rfl)) (by decide) (fun K hK => ?_)
              refine goes_ Try.func9 (by kernel_rfl) rfl #[.agg #[.int .i64 (m : Int), .slice As N.length cs], .string ya] (by rfl) rfl rfl (by simp only [List.map_toArray, List.map_cons, List.map_nil]; rfl) ?_
              refine (span_Push.calls (m : Int) As cs N ya ((m : Int) + 1) Pa 0 W7 (Kd.C_below HPV.out b7) HLN.out HPUx.out).mono ?_
              rintro e W3 ⟨v3, rfl, ho3, hD⟩
              obtain ⟨A3, c3, rfl⟩ := Kd.R_slice ho3
              have f3 : OwnT W3 Vx.heap.size (.slice A3 Pa.length c3) Pa := Kd.R_lower ho3 (b7).size
              clear ho3
              refine ⟨_, rfl, ?_⟩
              have b3 := below_then b7 (b7).size hD
              replace f7 := (hD.block _ (blk_lt f7)).trans f7
              refine hK.out _ _ ⟨pw_cell_below b3 HS.out.1, pw_cell_below b3 HS.out.2⟩ (fun hHeld => ?_)
              clear hD
              clear hK K
              refine norm_ (a' := ?_) ?_ ?_
              rotate_left
              · show Act.put _ (some 51) _ = _
                simp only [Act.put, List.setIfInBounds_toArray, List.set_cons_zero, List.set_cons_succ, i64_w, i32_w]
                rfl
              refine pure_ (i := 4) (N := some 47) (v := ?_) (a' := ?_) #[true, true, true, true, true, false, false, true, false, false] rfl rfl (any_of HT_.out (by kernel_rfl)) (fun _ _ _ h => h) (Or.inl ⟨by rfl, ?_⟩) ?_ ?_
              rotate_left
              · intro w'
                go_simp
                with_reducible rfl
              rotate_left
              · simp only [Act.put, List.setIfInBounds_toArray, List.set_cons_zero, List.set_cons_succ, i64_w, i32_w]
                rfl
              refine pure_ (i := 5) (N := some 52) (v := ?_) (a' := ?_) #[true, true, true, true, true, true, false, true, false, false] rfl rfl (any_of HT_.out (by kernel_rfl)) (fun _ _ _ h => h) (Or.inl ⟨by rfl, ?_⟩) ?_ ?_
              rotate_left
              · intro w'
                go_simp
                with_reducible rfl
              rotate_left
              · simp only [Act.put, List.setIfInBounds_toArray, List.set_cons_zero, List.set_cons_succ, i64_w, i32_w]
                rfl
              refine pure_ (i := 6) (N := some 53) (v := ?_) (a' := ?_) #[true, true, true, true, true, true, true, true, false, false] rfl rfl (any_of HT_.out (by kernel_rfl)) (fun _ _ _ h => h) (Or.inl ⟨by rfl, ?_⟩) ?_ ?_
              rotate_left
              · intro w'
                go_simp
                with_reducible rfl
              rotate_left
              · simp only [Act.put, List.setIfInBounds_toArray, List.set_cons_zero, List.set_cons_succ, i64_w, i32_w]
                rfl
              refine norm_ (a' := putAll _ [(50, .string ya), (51, .tuple #[.agg #[.int .i64 ((m : Int) + 1), .slice A3 Pa.length c3], .int .i64 0]), (47, .tuple #[.agg #[.int .i64 ((m : Int) + 1), .slice A3 Pa.length c3], .int .i64 0]), (52, .agg #[.int .i64 ((m : Int) + 1), .slice A3 Pa.length c3]), (53, .int .i64 0), (13, .pointer (some ⟨g7, 0, none⟩))]) ?_ (hcont ((A3, c3), g7) W3 ⟨f3, f7, e7, b3⟩)
              rfl
          · intro K hK
            refine allocSp_step (by rfl) rfl rfl ?_
            obtain ⟨W7, hW7⟩ : ∃ X, X = Vx.alloc (.cells #[.int .i64 0, .slice none 0 0] 26) := ⟨_, rfl⟩
            have hD : Below Vx.heap.size Vx W7 := by rw [hW7]; exact (Below.refl _ _).alloc (Nat.le_refl _) _
            have f7 : W7.heap[Vx.heap.size]? = some (.cells #[.int .i64 0, .slice none 0 0] 26 (0, 0)) := by rw [hW7]; exact blk_new _ _
            obtain ⟨g7, hg7⟩ : ∃ g, g = Vx.heap.size := ⟨_, rfl⟩
            have e7 : Vx.heap.size ≤ g7 := by rw [hg7]; exact ((Below.refl Vx.heap.size Vx)).size
            rw [← hW7, ← hg7]
            rw [← hg7] at f7
            clear hW7 hg7
            have b7 := below_then (Below.refl Vx.heap.size Vx) ((Below.refl Vx.heap.size Vx)).size hD
            refine hK.out _ _ ⟨pw_cell_below b7 HS.out.1, pw_cell_below b7 HS.out.2⟩ (fun hHeld => ?_)
            clear hD
            clear hK K
            refine norm_ (a' := ?_) ?_ ?_
            rotate_left
            · show Act.put _ (some 13) _ = _
              simp only [Act.put, List.setIfInBounds_toArray, List.set_cons_zero, List.set_cons_succ, i64_w, i32_w]
              rfl
            refine one_ (i := 2) (N := some 50) #[true, true, true, false, false, false, false, true, false, false] rfl rfl (one_of HT_.out (by kernel_rfl)) (by decide) (fun K hK => ?_)
            refine goes_ Try.func18 (by kernel_rfl) rfl #[.slice A1 la.length c1] (by rfl) rfl rfl (by simp only [List.map_toArray, List.map_cons, List.map_nil]; rfl) ?_
            refine (F.hash_Leaf.calls A1 c1 la ya W7 (Kd.C_below HRV.out b7) HLA.out HSA.out).mono ?_
            rintro e W2 ⟨rfl, hD⟩
            refine ⟨_, rfl, ?_⟩
            have b2 := below_then b7 (b7).size hD
            replace f7 := (hD.block _ (blk_lt f7)).trans f7
            refine hK.out _ _ ⟨pw_cell_below b2 HS.out.1, pw_cell_below b2 HS.out.2⟩ (fun hHeld => ?_)
            clear hD
            clear hK K
            refine norm_ (a' := ?_) ?_ ?_
            rotate_left
            · show Act.put _ (some 50) _ = _
              simp only [Act.put, List.setIfInBounds_toArray, List.set_cons_zero, List.set_cons_succ, i64_w, i32_w]
              rfl
            refine one_ (i := 3) (N := some 51) #[true, true, true, true, false, false, false, true, false, false] rfl rfl (one_of HT_.out (by kernel_rfl)) (by decide) (fun K hK => ?_)
            refine goes_ Try.func9 (by kernel_rfl) rfl #[.agg #[.int .i64 (m : Int), .slice As N.length cs], .string ya] (by rfl) rfl rfl (by simp only [List.map_toArray, List.map_cons, List.map_nil]; rfl) ?_
            refine (span_Push.calls (m : Int) As cs N ya ((m : Int) + 1) Pa 0 W2 (Kd.C_below HPV.out b2) HLN.out HPUx.out).mono ?_
            rintro e W3 ⟨v3, rfl, ho3, hD⟩
            obtain ⟨A3, c3, rfl⟩ := Kd.R_slice ho3
            have f3 : OwnT W3 Vx.heap.size (.slice A3 Pa.length c3) Pa := Kd.R_lower ho3 (b2).size
            clear ho3
            refine ⟨_, rfl, ?_⟩
            have b3 := below_then b2 (b2).size hD
            replace f7 := (hD.block _ (blk_lt f7)).trans f7
            refine hK.out _ _ ⟨pw_cell_below b3 HS.out.1, pw_cell_below b3 HS.out.2⟩ (fun hHeld => ?_)
            clear hD
            clear hK K
            refine norm_ (a' := ?_) ?_ ?_
            rotate_left
            · show Act.put _ (some 51) _ = _
              simp only [Act.put, List.setIfInBounds_toArray, List.set_cons_zero, List.set_cons_succ, i64_w, i32_w]
              rfl
            refine pure_ (i := 4) (N := some 47) (v := ?_) (a' := ?_) #[true, true, true, true, true, false, false, true, false, false] rfl rfl (any_of HT_.out (by kernel_rfl)) (fun _ _ _ h => h) (Or.inl ⟨by rfl, ?_⟩) ?_ ?_
            rotate_left
            · intro w'
              go_simp
              with_reducible rfl
            rotate_left
            · simp only [Act.put, List.setIfInBounds_toArray, List.set_cons_zero, List.set_cons_succ, i64_w, i32_w]
              rfl
            refine pure_ (i := 5) (N := some 52) (v := ?_) (a' := ?_) #[true, true, true, true, true, true, false, true, false, false] rfl rfl (any_of HT_.out (by kernel_rfl)) (fun _ _ _ h => h) (Or.inl ⟨by rfl, ?_⟩) ?_ ?_
            rotate_left
            · intro w'
              go_simp
              with_reducible rfl
            rotate_left
            · simp only [Act.put, List.setIfInBounds_toArray, List.set_cons_zero, List.set_cons_succ, i64_w, i32_w]
              rfl
            refine pure_ (i := 6) (N := some 53) (v := ?_) (a' := ?_) #[true, true, true, true, true, true, true, true, false, false] rfl rfl (any_of HT_.out (by kernel_rfl)) (fun _ _ _ h => h) (Or.inl ⟨by rfl, ?_⟩) ?_ ?_
            rotate_left
            · intro w'
              go_simp
              with_reducible rfl
            rotate_left
            · simp only [Act.put, List.setIfInBounds_toArray, List.set_cons_zero, List.set_cons_succ, i64_w, i32_w]
              rfl
            refine norm_ (a' := putAll _ [(50, .string ya), (51, .tuple #[.agg #[.int .i64 ((m : Int) + 1), .slice A3 Pa.length c3], .int .i64 0]), (47, .tuple #[.agg #[.int .i64 ((m : Int) + 1), .slice A3 Pa.length c3], .int .i64 0]), (52, .agg #[.int .i64 ((m : Int) + 1), .slice A3 Pa.length c3]), (53, .int .i64 0), (13, .pointer (some ⟨g7, 0, none⟩))]) ?_ (hcont ((A3, c3), g7) W3 ⟨f3, f7, e7, b3⟩)
            rfl
        rintro ⟨⟨Ax, cx⟩, gx⟩ W9 ⟨f3, f7, e7, b9⟩
        simp only [putAll, Act.put, List.setIfInBounds_toArray, List.set_cons_zero, List.set_cons_succ]
        have HF3 := Lib.hid f3
        have HF7 := Lib.hid f7
        have HB9 := Lib.hid b9
        have HE7 := Lib.hid e7
        clear f3 f7 b9 e7
        have z0 : W9.cell? ⟨gx, 0, none⟩ = some (.int .i64 0) := by rw [blk_cell HF7.out]; rfl
        have z1 : W9.cell? ⟨gx, 1, none⟩ = some (.slice none 0 0) := by rw [blk_cell HF7.out]; rfl
        have z2 : W9.frozen? ⟨gx, 0, none⟩ = false := blk_frozen HF7.out 0
        have z3 : W9.frozen? ⟨gx, 1, none⟩ = false := blk_frozen HF7.out 1
        refine one_ (i := 8) (N := none) #[true, true, true, true, true, true, true, true, true, false] rfl rfl (one_of HT_.out (by kernel_rfl)) (by decide) (fun K hK => ?_)
        refine skip_ (w1 := (W9.setCell ⟨gx, 0, none⟩ (.int .i64 ((m : Int) + 1))).setCell ⟨gx, 1, none⟩ (.slice Ax Pa.length cx)) (by rfl) rfl (by go_simp) ?_
        clear z0 z1 z2 z3
        obtain ⟨Xx, hX9⟩ : ∃ X, X = (W9.setCell ⟨gx, 0, none⟩ (.int .i64 ((m : Int) + 1))).setCell ⟨gx, 1, none⟩ (.slice Ax Pa.length cx) := ⟨_, rfl⟩
        have hbx : Below Vx.heap.size Vx Xx := by rw [hX9]; exact below_setCell (below_setCell HB9.out HE7.out _ _) HE7.out _ _
        have hgx : Xx.heap[gx]? = some (.cells #[.int .i64 ((m : Int) + 1), .slice Ax Pa.length cx] 26 (0, 0)) := by rw [hX9]; exact set_two HF7.out _ _
        have hox : OwnT Xx Vx.heap.size (.slice Ax Pa.length cx) Pa := by rw [hX9]; exact ownT_set (ownT_set HF3.out HF7.out (by decide) _ _) (blk_set HF7.out _ _) (by decide) _ _
        rw [← hX9]
        clear hX9 HF3 HF7 HB9 HE7
        refine hK.out _ _ ⟨pw_cell_below hbx HS.out.1, pw_cell_below hbx HS.out.2⟩ (fun hHeld => ?_)
        clear hK K
        refine pure_ (i := 9) (N := some 14) (v := ?_) (a' := ?_) #[true, true, true, true, true, true, true, true, true, true] rfl rfl (any_of HT_.out (by kernel_rfl)) (fun _ _ _ h => h) (Or.inl ⟨by rfl, ?_⟩) ?_ ?_
        rotate_left
        · intro w'
          go_simp
          with_reducible rfl
        rotate_left
        · simp only [Act.put, List.setIfInBounds_toArray, List.set_cons_zero, List.set_cons_succ, i64_w, i32_w]
          rfl
        refine done_ (done_of HT_.out (by kernel_rfl)) ?_
        have HGXx := Lib.hid hgx
        have HOXx := Lib.hid (Kd.R_reads' hox)
        have hstep := below_then HDV.out HDV.out.size hbx
        have HBn := Lib.hid (below_then HB_.out HB_.out.size hstep)
        have HGn := Lib.hid ((hstep.block _ (blk_lt HG_.out)).trans HG_.out)
        have HPn := Lib.hid (Kd.C_below HPN.out hstep)
        have n_HOF := Lib.hid (And.intro HOF.out.1 (And.intro HOF.out.2.1 (Kd.C_below HOF.out.2.2 hstep)))
        clear HOF
        have HOF := n_HOF
        clear n_HOF
        clear HB_ HG_ HPN
        have HB_ := HBn
        have HG_ := HGn
        have HPN := HPn
        clear HBn HGn HPn hstep hbx hgx hox HDV HS HPV HRV HT_ HW_ hHeld
        go_wp2
        have c0_ : Xx.cell? ⟨gs, 0, none⟩ = some (.int .i64 (m : Int)) := by rw [blk_cell HG_.out]; rfl
        have c1_ : Xx.cell? ⟨gs, 1, none⟩ = some (.slice As N.length cs) := by rw [blk_cell HG_.out]; rfl
        refine start_ (n := 10) (S := fun w' => w'.cell? ⟨gs, 0, none⟩ = some (.int .i64 (m : Int)) ∧ w'.cell? ⟨gs, 1, none⟩ = some (.slice As N.length cs)) (ds := []) #[false, false, false, false, false, false, false, false, false, false] (by kernel_rfl) rfl rfl ⟨by rw [World.cell?_drew]; exact c0_, by rw [World.cell?_drew]; exact c1_⟩ (fun hHeld => ?_); refine with_tabW kp10_tab kp10_bits (fun HT_ HW_ => ?_)
        have HDV := Lib.hid (below_drew1 (Below.refl Xx.heap.size Xx))
        clear c0_ c1_
        generalize Xx.drew = Vy at *
        have HS := Lib.hid hHeld
        have HPV := Lib.hid (Kd.C_below HPN.out HDV.out)
        have HRV := Lib.hid (Kd.C_below (Kd.C_below HRB.out HB_.out) HDV.out)
        refine take_ (i := 0) (N := some 55) (v := ?_) (a' := ?_) #[true, false, false, false, false, false, false, false, false, false] rfl rfl (take_ofW HT_.out HW_.out (by kernel_rfl)) (fun _ _ _ h => h) (Or.inl ⟨by rfl, ?_⟩) hHeld ?_ ?_
        rotate_left
        · rintro w' ⟨s0, s1⟩
          go_simp
          with_reducible rfl
        rotate_left
        · simp only [Act.put, List.setIfInBounds_toArray, List.set_cons_zero, List.set_cons_succ, i64_w, i32_w]
          rfl
        refine pure_ (i := 1) (N := some 56) (v := ?_) (a' := ?_) #[true, true, false, false, false, false, false, false, false, false] rfl rfl (any_of HT_.out (by kernel_rfl)) (fun _ _ _ h => h) (Or.inl ⟨by rfl, ?_⟩) ?_ ?_
        rotate_left
        · intro w'
          go_simp
          with_reducible rfl
        rotate_left
        · simp only [Act.put, List.setIfInBounds_toArray, List.set_cons_zero, List.set_cons_succ, i64_w, i32_w]
          rfl
        refine join_ (σ := (Option Addr × Nat) × Nat) 2 #[true, true, true, true, true, true, true, true, false, false] (fun s => [(57, .string yb), (58, .tuple #[.agg #[.int .i64 ((m : Int) + 1), .slice s.1.1 Pb.length s.1.2], .int .i64 0]), (54, .tuple #[.agg #[.int .i64 ((m : Int) + 1), .slice s.1.1 Pb.length s.1.2], .int .i64 0]), (59, .agg #[.int .i64 ((m : Int) + 1), .slice s.1.1 Pb.length s.1.2]), (60, .int .i64 0), (15, .pointer (some ⟨s.2, 0, none⟩))]) (fun s w' => OwnT w' Vy.heap.size (.slice s.1.1 Pb.length s.1.2) Pb ∧ w'.heap[s.2]? = some (.cells #[.int .i64 0, .slice none 0 0] 26 (0, 0)) ∧ Vy.heap.size ≤ s.2 ∧ Below Vy.heap.size Vy w') ?_ (fun hcont => ?_)
        rotate_left
        · refine two_ (i := 2) (j := 7) (Ni := some 57) (Nj := some 15) #[true, true, true, false, false, false, false, false, false, false] #[true, true, false, false, false, false, false, true, false, false] rfl rfl rfl rfl (two_of HT_.out (by kernel_rfl)) (by decide) (by decide) ?_ ?_
          · intro K hK
            refine goes_ Try.func18 (by kernel_rfl) rfl #[.slice A2 lb.length c2] (by rfl) rfl rfl (by simp only [List.map_toArray, List.map_cons, List.map_nil]; rfl) ?_
            refine (F.hash_Leaf.calls A2 c2 lb yb Vy (Kd.C_below HRV.out (Below.refl Vy.heap.size Vy)) HLB.out HSB.out).mono ?_
            rintro e W2 ⟨rfl, hD⟩
            refine ⟨_, rfl, ?_⟩
            have b2 := below_then (Below.refl Vy.heap.size Vy) ((Below.refl Vy.heap.size Vy)).size hD
            refine hK.out _ _ ⟨pw_cell_below b2 HS.out.1, pw_cell_below b2 HS.out.2⟩ (fun hHeld => ?_)
            clear hD
            clear hK K
            refine norm_ (a' := ?_) ?_ ?_
            rotate_left
            · show Act.put _ (some 57) _ = _
              simp only [Act.put, List.setIfInBounds_toArray, List.set_cons_zero, List.set_cons_succ, i64_w, i32_w]
              rfl
            refine two_ (i := 3) (j := 7) (Ni := some 58) (Nj := some 15) #[true, true, true, true, false, false, false, false, false, false] #[true, true, true, false, false, false, false, true, false, false] rfl rfl rfl rfl (two_of HT_.out (by kernel_rfl)) (by decide) (by decide) ?_ ?_
            · intro K hK
              refine goes_ Try.func9 (by kernel_rfl) rfl #[.agg #[.int .i64 (m : Int), .slice As N.length cs], .string yb] (by rfl) rfl rfl (by simp only [List.map_toArray, List.map_cons, List.map_nil]; rfl) ?_
              refine (span_Push.calls (m : Int) As cs N yb ((m : Int) + 1) Pb 0 W2 (Kd.C_below HPV.out b2) HLN.out HPUy.out).mono ?_
              rintro e W3 ⟨v3, rfl, ho3, hD⟩
              obtain ⟨A3, c3, rfl⟩ := Kd.R_slice ho3
              have f3 : OwnT W3 Vy.heap.size (.slice A3 Pb.length c3) Pb := Kd.R_lower ho3 (b2).size
              clear ho3
              refine ⟨_, rfl, ?_⟩
              have b3 := below_then b2 (b2).size hD
              refine hK.out _ _ ⟨pw_cell_below b3 HS.out.1, pw_cell_below b3 HS.out.2⟩ (fun hHeld => ?_)
              clear hD
              clear hK K
              refine norm_ (a' := ?_) ?_ ?_
              rotate_left
              · show Act.put _ (some 58) _ = _
                simp only [Act.put, List.setIfInBounds_toArray, List.set_cons_zero, List.set_cons_succ, i64_w, i32_w]
                rfl
              refine pure_ (i := 4) (N := some 54) (v := ?_) (a' := ?_) #[true, true, true, true, true, false, false, false, false, false] rfl rfl (any_of HT_.out (by kernel_rfl)) (fun _ _ _ h => h) (Or.inl ⟨by rfl, ?_⟩) ?_ ?_
              rotate_left
              · intro w'
                go_simp
                with_reducible rfl
              rotate_left
              · simp only [Act.put, List.setIfInBounds_toArray, List.set_cons_zero, List.set_cons_succ, i64_w, i32_w]
                rfl
              refine pure_ (i := 5) (N := some 59) (v := ?_) (a' := ?_) #[true, true, true, true, true, true, false, false, false, false] rfl rfl (any_of HT_.out (by kernel_rfl)) (fun _ _ _ h => h) (Or.inl ⟨by rfl, ?_⟩) ?_ ?_
              rotate_left
              · intro w'
                go_simp
                with_reducible rfl
              rotate_left
              · simp only [Act.put, List.setIfInBounds_toArray, List.set_cons_zero, List.set_cons_succ, i64_w, i32_w]
                rfl
              refine pure_ (i := 6) (N := some 60) (v := ?_) (a' := ?_) #[true, true, true, true, true, true, true, false, false, false] rfl rfl (any_of HT_.out (by kernel_rfl)) (fun _ _ _ h => h) (Or.inl ⟨by rfl, ?_⟩) ?_ ?_
              rotate_left
              · intro w'
                go_simp
                with_reducible rfl
              rotate_left
              · simp only [Act.put, List.setIfInBounds_toArray, List.set_cons_zero, List.set_cons_succ, i64_w, i32_w]
                rfl
              refine one_ (i := 7) (N := some 15) #[true, true, true, true, true, true, true, true, false, false] rfl rfl (one_of HT_.out (by kernel_rfl)) (by decide) (fun K hK => ?_)
              refine allocSp_step (by rfl) rfl rfl ?_
              obtain ⟨W7, hW7⟩ : ∃ X, X = W3.alloc (.cells #[.int .i64 0, .slice none 0 0] 26) := ⟨_, rfl⟩
              have hD : Below W3.heap.size W3 W7 := by rw [hW7]; exact (Below.refl _ _).alloc (Nat.le_refl _) _
              have f7 : W7.heap[W3.heap.size]? = some (.cells #[.int .i64 0, .slice none 0 0] 26 (0, 0)) := by rw [hW7]; exact blk_new _ _
              obtain ⟨g7, hg7⟩ : ∃ g, g = W3.heap.size := ⟨_, rfl⟩
              have e7 : Vy.heap.size ≤ g7 := by rw [hg7]; exact (b3).size
              rw [← hW7, ← hg7]
              rw [← hg7] at f7
              clear hW7 hg7
              have b7 := below_then b3 (b3).size hD
              replace f3 := ownT_below f3 hD
              refine hK.out _ _ ⟨pw_cell_below b7 HS.out.1, pw_cell_below b7 HS.out.2⟩ (fun hHeld => ?_)
              clear hD
              clear hK K
              refine norm_ (a' := ?_) ?_ ?_
              rotate_left
              · show Act.put _ (some 15) _ = _
                simp only [Act.put, List.setIfInBounds_toArray, List.set_cons_zero, List.set_cons_succ, i64_w, i32_w]
                rfl
              refine norm_ (a' := putAll _ [(57, .string yb), (58, .tuple #[.agg #[.int .i64 ((m : Int) + 1), .slice A3 Pb.length c3], .int .i64 0]), (54, .tuple #[.agg #[.int .i64 ((m : Int) + 1), .slice A3 Pb.length c3], .int .i64 0]), (59, .agg #[.int .i64 ((m : Int) + 1), .slice A3 Pb.length c3]), (60, .int .i64 0), (15, .pointer (some ⟨g7, 0, none⟩))]) ?_ (hcont ((A3, c3), g7) W7 ⟨f3, f7, e7, b7⟩)
              rfl
            · intro K hK
              refine allocSp_step (by rfl) rfl rfl ?_
              obtain ⟨W7, hW7⟩ : ∃ X, X = W2.alloc (.cells #[.int .i64 0, .slice none 0 0] 26) := ⟨_, rfl⟩
              have hD : Below W2.heap.size W2 W7 := by rw [hW7]; exact (Below.refl _ _).alloc (Nat.le_refl _) _
              have f7 : W7.heap[W2.heap.size]? = some (.cells #[.int .i64 0, .slice none 0 0] 26 (0, 0)) := by rw [hW7]; exact blk_new _ _
              obtain ⟨g7, hg7⟩ : ∃ g, g = W2.heap.size := ⟨_, rfl⟩
              have e7 : Vy.heap.size ≤ g7 := by rw [hg7]; exact (b2).size
              rw [← hW7, ← hg7]
              rw [← hg7] at f7
              clear hW7 hg7
              have b7 := below_then b2 (b2).size hD
              refine hK.out _ _ ⟨pw_cell_below b7 HS.out.1, pw_cell_below b7 HS.out.2⟩ (fun hHeld => ?_)
              clear hD
              clear hK K
              refine norm_ (a' := ?_) ?_ ?_
              rotate_left
              · show Act.put _ (some 15) _ = _
                simp only [Act.put, List.setIfInBounds_toArray, List.set_cons_zero, List.set_cons_succ, i64_w, i32_w]
                rfl
              refine one_ (i := 3) (N := some 58) #[true, true, true, true, false, false, false, true, false, false] rfl rfl (one_of HT_.out (by kernel_rfl)) (by decide) (fun K hK => ?_)
              refine goes_ Try.func9 (by kernel_rfl) rfl #[.agg #[.int .i64 (m : Int), .slice As N.length cs], .string yb] (by rfl) rfl rfl (by simp only [List.map_toArray, List.map_cons, List.map_nil]; rfl) ?_
              refine (span_Push.calls (m : Int) As cs N yb ((m : Int) + 1) Pb 0 W7 (Kd.C_below HPV.out b7) HLN.out HPUy.out).mono ?_
              rintro e W3 ⟨v3, rfl, ho3, hD⟩
              obtain ⟨A3, c3, rfl⟩ := Kd.R_slice ho3
              have f3 : OwnT W3 Vy.heap.size (.slice A3 Pb.length c3) Pb := Kd.R_lower ho3 (b7).size
              clear ho3
              refine ⟨_, rfl, ?_⟩
              have b3 := below_then b7 (b7).size hD
              replace f7 := (hD.block _ (blk_lt f7)).trans f7
              refine hK.out _ _ ⟨pw_cell_below b3 HS.out.1, pw_cell_below b3 HS.out.2⟩ (fun hHeld => ?_)
              clear hD
              clear hK K
              refine norm_ (a' := ?_) ?_ ?_
              rotate_left
              · show Act.put _ (some 58) _ = _
                simp only [Act.put, List.setIfInBounds_toArray, List.set_cons_zero, List.set_cons_succ, i64_w, i32_w]
                rfl
              refine pure_ (i := 4) (N := some 54) (v := ?_) (a' := ?_) #[true, true, true, true, true, false, false, true, false, false] rfl rfl (any_of HT_.out (by kernel_rfl)) (fun _ _ _ h => h) (Or.inl ⟨by rfl, ?_⟩) ?_ ?_
              rotate_left
              · intro w'
                go_simp
                with_reducible rfl
              rotate_left
              · simp only [Act.put, List.setIfInBounds_toArray, List.set_cons_zero, List.set_cons_succ, i64_w, i32_w]
                rfl
              refine pure_ (i := 5) (N := some 59) (v := ?_) (a' := ?_) #[true, true, true, true, true, true, false, true, false, false] rfl rfl (any_of HT_.out (by kernel_rfl)) (fun _ _ _ h => h) (Or.inl ⟨by rfl, ?_⟩) ?_ ?_
              rotate_left
              · intro w'
                go_simp
                with_reducible rfl
              rotate_left
              · simp only [Act.put, List.setIfInBounds_toArray, List.set_cons_zero, List.set_cons_succ, i64_w, i32_w]
                rfl
              refine pure_ (i := 6) (N := some 60) (v := ?_) (a' := ?_) #[true, true, true, true, true, true, true, true, false, false] rfl rfl (any_of HT_.out (by kernel_rfl)) (fun _ _ _ h => h) (Or.inl ⟨by rfl, ?_⟩) ?_ ?_
              rotate_left
              · intro w'
                go_simp
                with_reducible rfl
              rotate_left
              · simp only [Act.put, List.setIfInBounds_toArray, List.set_cons_zero, List.set_cons_succ, i64_w, i32_w]
                rfl
              refine norm_ (a' := putAll _ [(57, .string yb), (58, .tuple #[.agg #[.int .i64 ((m : Int) + 1), .slice A3 Pb.length c3], .int .i64 0]), (54, .tuple #[.agg #[.int .i64 ((m : Int) + 1), .slice A3 Pb.length c3], .int .i64 0]), (59, .agg #[.int .i64 ((m : Int) + 1), .slice A3 Pb.length c3]), (60, .int .i64 0), (15, .pointer (some ⟨g7, 0, none⟩))]) ?_ (hcont ((A3, c3), g7) W3 ⟨f3, f7, e7, b3⟩)
              rfl
          · intro K hK
            refine allocSp_step (by rfl) rfl rfl ?_
            obtain ⟨W7, hW7⟩ : ∃ X, X = Vy.alloc (.cells #[.int .i64 0, .slice none 0 0] 26) := ⟨_, rfl⟩
            have hD : Below Vy.heap.size Vy W7 := by rw [hW7]; exact (Below.refl _ _).alloc (Nat.le_refl _) _
            have f7 : W7.heap[Vy.heap.size]? = some (.cells #[.int .i64 0, .slice none 0 0] 26 (0, 0)) := by rw [hW7]; exact blk_new _ _
            obtain ⟨g7, hg7⟩ : ∃ g, g = Vy.heap.size := ⟨_, rfl⟩
            have e7 : Vy.heap.size ≤ g7 := by rw [hg7]; exact ((Below.refl Vy.heap.size Vy)).size
            rw [← hW7, ← hg7]
            rw [← hg7] at f7
            clear hW7 hg7
            have b7 := below_then (Below.refl Vy.heap.size Vy) ((Below.refl Vy.heap.size Vy)).size hD
            refine hK.out _ _ ⟨pw_cell_below b7 HS.out.1, pw_cell_below b7 HS.out.2⟩ (fun hHeld => ?_)
            clear hD
            clear hK K
            refine norm_ (a' := ?_) ?_ ?_
            rotate_left
            · show Act.put _ (some 15) _ = _
              simp only [Act.put, List.setIfInBounds_toArray, List.set_cons_zero, List.set_cons_succ, i64_w, i32_w]
              rfl
            refine one_ (i := 2) (N := some 57) #[true, true, true, false, false, false, false, true, false, false] rfl rfl (one_of HT_.out (by kernel_rfl)) (by decide) (fun K hK => ?_)
            refine goes_ Try.func18 (by kernel_rfl) rfl #[.slice A2 lb.length c2] (by rfl) rfl rfl (by simp only [List.map_toArray, List.map_cons, List.map_nil]; rfl) ?_
            refine (F.hash_Leaf.calls A2 c2 lb yb W7 (Kd.C_below HRV.out b7) HLB.out HSB.out).mono ?_
            rintro e W2 ⟨rfl, hD⟩
            refine ⟨_, rfl, ?_⟩
            have b2 := below_then b7 (b7).size hD
            replace f7 := (hD.block _ (blk_lt f7)).trans f7
            refine hK.out _ _ ⟨pw_cell_below b2 HS.out.1, pw_cell_below b2 HS.out.2⟩ (fun hHeld => ?_)
            clear hD
            clear hK K
            refine norm_ (a' := ?_) ?_ ?_
            rotate_left
            · show Act.put _ (some 57) _ = _
              simp only [Act.put, List.setIfInBounds_toArray, List.set_cons_zero, List.set_cons_succ, i64_w, i32_w]
              rfl
            refine one_ (i := 3) (N := some 58) #[true, true, true, true, false, false, false, true, false, false] rfl rfl (one_of HT_.out (by kernel_rfl)) (by decide) (fun K hK => ?_)
            refine goes_ Try.func9 (by kernel_rfl) rfl #[.agg #[.int .i64 (m : Int), .slice As N.length cs], .string yb] (by rfl) rfl rfl (by simp only [List.map_toArray, List.map_cons, List.map_nil]; rfl) ?_
            refine (span_Push.calls (m : Int) As cs N yb ((m : Int) + 1) Pb 0 W2 (Kd.C_below HPV.out b2) HLN.out HPUy.out).mono ?_
            rintro e W3 ⟨v3, rfl, ho3, hD⟩
            obtain ⟨A3, c3, rfl⟩ := Kd.R_slice ho3
            have f3 : OwnT W3 Vy.heap.size (.slice A3 Pb.length c3) Pb := Kd.R_lower ho3 (b2).size
            clear ho3
            refine ⟨_, rfl, ?_⟩
            have b3 := below_then b2 (b2).size hD
            replace f7 := (hD.block _ (blk_lt f7)).trans f7
            refine hK.out _ _ ⟨pw_cell_below b3 HS.out.1, pw_cell_below b3 HS.out.2⟩ (fun hHeld => ?_)
            clear hD
            clear hK K
            refine norm_ (a' := ?_) ?_ ?_
            rotate_left
            · show Act.put _ (some 58) _ = _
              simp only [Act.put, List.setIfInBounds_toArray, List.set_cons_zero, List.set_cons_succ, i64_w, i32_w]
              rfl
            refine pure_ (i := 4) (N := some 54) (v := ?_) (a' := ?_) #[true, true, true, true, true, false, false, true, false, false] rfl rfl (any_of HT_.out (by kernel_rfl)) (fun _ _ _ h => h) (Or.inl ⟨by rfl, ?_⟩) ?_ ?_
            rotate_left
            · intro w'
              go_simp
              with_reducible rfl
            rotate_left
            · simp only [Act.put, List.setIfInBounds_toArray, List.set_cons_zero, List.set_cons_succ, i64_w, i32_w]
              rfl
            refine pure_ (i := 5) (N := some 59) (v := ?_) (a' := ?_) #[true, true, true, true, true, true, false, true, false, false] rfl rfl (any_of HT_.out (by kernel_rfl)) (fun _ _ _ h => h) (Or.inl ⟨by rfl, ?_⟩) ?_ ?_
            rotate_left
            · intro w'
              go_simp
              with_reducible rfl
            rotate_left
            · simp only [Act.put, List.setIfInBounds_toArray, List.set_cons_zero, List.set_cons_succ, i64_w, i32_w]
              rfl
            refine pure_ (i := 6) (N := some 60) (v := ?_) (a' := ?_) #[true, true, true, true, true, true, true, true, false, false] rfl rfl (any_of HT_.out (by kernel_rfl)) (fun _ _ _ h => h) (Or.inl ⟨by rfl, ?_⟩) ?_ ?_
            rotate_left
            · intro w'
              go_simp
              with_reducible rfl
            rotate_left
            · simp only [Act.put, List.setIfInBounds_toArray, List.set_cons_zero, List.set_cons_succ, i64_w, i32_w]
              rfl
            refine norm_ (a' := putAll _ [(57, .string yb), (58, .tuple #[.agg #[.int .i64 ((m : Int) + 1), .slice A3 Pb.length c3], .int .i64 0]), (54, .tuple #[.agg #[.int .i64 ((m : Int) + 1), .slice A3 Pb.length c3], .int .i64 0]), (59, .agg #[.int .i64 ((m : Int) + 1), .slice A3 Pb.length c3]), (60, .int .i64 0), (15, .pointer (some ⟨g7, 0, none⟩))]) ?_ (hcont ((A3, c3), g7) W3 ⟨f3, f7, e7, b3⟩)
            rfl
        rintro ⟨⟨Ay, cy⟩, gy⟩ W9 ⟨f3, f7, e7, b9⟩
        simp only [putAll, Act.put, List.setIfInBounds_toArray, List.set_cons_zero, List.set_cons_succ]
        have HF3 := Lib.hid f3
        have HF7 := Lib.hid f7
        have HB9 := Lib.hid b9
        have HE7 := Lib.hid e7
        clear f3 f7 b9 e7
        have z0 : W9.cell? ⟨gy, 0, none⟩ = some (.int .i64 0) := by rw [blk_cell HF7.out]; rfl
        have z1 : W9.cell? ⟨gy, 1, none⟩ = some (.slice none 0 0) := by rw [blk_cell HF7.out]; rfl
        have z2 : W9.frozen? ⟨gy, 0, none⟩ = false := blk_frozen HF7.out 0
        have z3 : W9.frozen? ⟨gy, 1, none⟩ = false := blk_frozen HF7.out 1
        refine one_ (i := 8) (N := none) #[true, true, true, true, true, true, true, true, true, false] rfl rfl (one_of HT_.out (by kernel_rfl)) (by decide) (fun K hK => ?_)
        refine skip_ (w1 := (W9.setCell ⟨gy, 0, none⟩ (.int .i64 ((m : Int) + 1))).setCell ⟨gy, 1, none⟩ (.slice Ay Pb.length cy)) (by rfl) rfl (by go_simp) ?_
        clear z0 z1 z2 z3
        obtain ⟨Xy, hX9⟩ : ∃ X, X = (W9.setCell ⟨gy, 0, none⟩ (.int .i64 ((m : Int) + 1))).setCell ⟨gy, 1, none⟩ (.slice Ay Pb.length cy) := ⟨_, rfl⟩
        have hbx : Below Vy.heap.size Vy Xy := by rw [hX9]; exact below_setCell (below_setCell HB9.out HE7.out _ _) HE7.out _ _
        have hgx : Xy.heap[gy]? = some (.cells #[.int .i64 ((m : Int) + 1), .slice Ay Pb.length cy] 26 (0, 0)) := by rw [hX9]; exact set_two HF7.out _ _
        have hox : OwnT Xy Vy.heap.size (.slice Ay Pb.length cy) Pb := by rw [hX9]; exact ownT_set (ownT_set HF3.out HF7.out (by decide) _ _) (blk_set HF7.out _ _) (by decide) _ _
        rw [← hX9]
        clear hX9 HF3 HF7 HB9 HE7
        refine hK.out _ _ ⟨pw_cell_below hbx HS.out.1, pw_cell_below hbx HS.out.2⟩ (fun hHeld => ?_)
        clear hK K
        refine pure_ (i := 9) (N := some 16) (v := ?_) (a' := ?_) #[true, true, true, true, true, true, true, true, true, true] rfl rfl (any_of HT_.out (by kernel_rfl)) (fun _ _ _ h => h) (Or.inl ⟨by rfl, ?_⟩) ?_ ?_
        rotate_left
        · intro w'
          go_simp
          with_reducible rfl
        rotate_left
        · simp only [Act.put, List.setIfInBounds_toArray, List.set_cons_zero, List.set_cons_succ, i64_w, i32_w]
          rfl
        refine done_ (done_of HT_.out (by kernel_rfl)) ?_
        have HGXy := Lib.hid hgx
        have HOXy := Lib.hid (Kd.R_reads' hox)
        have hstep := below_then HDV.out HDV.out.size hbx
        have HBn := Lib.hid (below_then HB_.out HB_.out.size hstep)
        have HGn := Lib.hid ((hstep.block _ (blk_lt HG_.out)).trans HG_.out)
        have HPn := Lib.hid (Kd.C_below HPN.out hstep)
        have n_HOF := Lib.hid (And.intro HOF.out.1 (And.intro HOF.out.2.1 (Kd.C_below HOF.out.2.2 hstep)))
        clear HOF
        have HOF := n_HOF
        clear n_HOF
        have n_HGXx := Lib.hid ((hstep.block _ (blk_lt HGXx.out)).trans HGXx.out)
        clear HGXx
        have HGXx := n_HGXx
        clear n_HGXx
        have n_HOXx := Lib.hid (And.intro HOXx.out.1 (And.intro HOXx.out.2.1 (Kd.C_below HOXx.out.2.2 hstep)))
        clear HOXx
        have HOXx := n_HOXx
        clear n_HOXx
        clear HB_ HG_ HPN
        have HB_ := HBn
        have HG_ := HGn
        have HPN := HPn
        clear HBn HGn HPn hstep hbx hgx hox HDV HS HPV HRV HT_ HW_ hHeld
        go_wp2
        have c0_ : Xy.cell? ⟨gs, 0, none⟩ = some (.int .i64 (m : Int)) := by rw [blk_cell HG_.out]; rfl
        have c1_ : Xy.cell? ⟨gs, 1, none⟩ = some (.slice As N.length cs) := by rw [blk_cell HG_.out]; rfl
        refine start_ (n := 10) (S := fun w' => w'.cell? ⟨gs, 0, none⟩ = some (.int .i64 (m : Int)) ∧ w'.cell? ⟨gs, 1, none⟩ = some (.slice As N.length cs)) (ds := []) #[false, false, false, false, false, false, false, false, false, false] (by kernel_rfl) rfl rfl ⟨by rw [World.cell?_drew]; exact c0_, by rw [World.cell?_drew]; exact c1_⟩ (fun hHeld => ?_); refine with_tabW kp11_tab kp11_bits (fun HT_ HW_ => ?_)
        have HDV := Lib.hid (below_drew1 (Below.refl Xy.heap.size Xy))
        clear c0_ c1_
        generalize Xy.drew = Vz at *
        have HS := Lib.hid hHeld
        have HPV := Lib.hid (Kd.C_below HPN.out HDV.out)
        have HRV := Lib.hid (Kd.C_below (Kd.C_below HRA.out HB_.out) HDV.out)
        refine take_ (i := 0) (N := some 62) (v := ?_) (a' := ?_) #[true, false, false, false, false, false, false, false, false, false] rfl rfl (take_ofW HT_.out HW_.out (by kernel_rfl)) (fun _ _ _ h => h) (Or.inl ⟨by rfl, ?_⟩) hHeld ?_ ?_
        rotate_left
        · rintro w' ⟨s0, s1⟩
          go_simp
          with_reducible rfl
        rotate_left
        · simp only [Act.put, List.setIfInBounds_toArray, List.set_cons_zero, List.set_cons_succ, i64_w, i32_w]
          rfl
        refine pure_ (i := 1) (N := some 63) (v := ?_) (a' := ?_) #[true, true, false, false, false, false, false, false, false, false] rfl rfl (any_of HT_.out (by kernel_rfl)) (fun _ _ _ h => h) (Or.inl ⟨by rfl, ?_⟩) ?_ ?_
        rotate_left
        · intro w'
          go_simp
          with_reducible rfl
        rotate_left
        · simp only [Act.put, List.setIfInBounds_toArray, List.set_cons_zero, List.set_cons_succ, i64_w, i32_w]
          rfl
        refine join_ (σ := (Option Addr × Nat) × Nat) 2 #[true, true, true, true, true, true, true, true, false, false] (fun s => [(64, .string ya), (65, .tuple #[.agg #[.int .i64 ((m : Int) + 1), .slice s.1.1 Pa.length s.1.2], .int .i64 0]), (61, .tuple #[.agg #[.int .i64 ((m : Int) + 1), .slice s.1.1 Pa.length s.1.2], .int .i64 0]), (66, .agg #[.int .i64 ((m : Int) + 1), .slice s.1.1 Pa.length s.1.2]), (67, .int .i64 0), (17, .pointer (some ⟨s.2, 0, none⟩))]) (fun s w' => OwnT w' Vz.heap.size (.slice s.1.1 Pa.length s.1.2) Pa ∧ w'.heap[s.2]? = some (.cells #[.int .i64 0, .slice none 0 0] 26 (0, 0)) ∧ Vz.heap.size ≤ s.2 ∧ Below Vz.heap.size Vz w') ?_ (fun hcont => ?_)
        rotate_left
        · refine two_ (i := 2) (j := 7) (Ni := some 64) (Nj := some 17) #[true, true, true, false, false, false, false, false, false, false] #[true, true, false, false, false, false, false, true, false, false] rfl rfl rfl rfl (two_of HT_.out (by kernel_rfl)) (by decide) (by decide) ?_ ?_
          · intro K hK
            refine goes_ Try.func18 (by kernel_rfl) rfl #[.slice A1 la.length c1] (by rfl) rfl rfl (by simp only [List.map_toArray, List.map_cons, List.map_nil]; rfl) ?_
            refine (F.hash_Leaf.calls A1 c1 la ya Vz (Kd.C_below HRV.out (Below.refl Vz.heap.size Vz)) HLA.out HSA.out).mono ?_
            rintro e W2 ⟨rfl, hD⟩
            refine ⟨_, rfl, ?_⟩
            have b2 := below_then (Below.refl Vz.heap.size Vz) ((Below.refl Vz.heap.size Vz)).size hD
            refine hK.out _ _ ⟨pw_cell_below b2 HS.out.1, pw_cell_below b2 HS.out.2⟩ (fun hHeld => ?_)
            clear hD
            clear hK K
            refine norm_ (a' := ?_) ?_ ?_
            rotate_left
            · show Act.put _ (some 64) _ = _
              simp only [Act.put, List.setIfInBounds_toArray, List.set_cons_zero, List.set_cons_succ, i64_w, i32_w]
              rfl
            refine two_ (i := 3) (j := 7) (Ni := some 65) (Nj := some 17) #[true, true, true, true, false, false, false, false, false, false] #[true, true, true, false, false, false, false, true, false, false] rfl rfl rfl rfl (two_of HT_.out (by kernel_rfl)) (by decide) (by decide) ?_ ?_
            · intro K hK
              refine goes_ Try.func9 (by kernel_rfl) rfl #[.agg #[.int .i64 (m : Int), .slice As N.length cs], .string ya] (by rfl) rfl rfl (by simp only [List.map_toArray, List.map_cons, List.map_nil]; rfl) ?_
              refine (span_Push.calls (m : Int) As cs N ya ((m : Int) + 1) Pa 0 W2 (Kd.C_below HPV.out b2) HLN.out HPUz.out).mono ?_
              rintro e W3 ⟨v3, rfl, ho3, hD⟩
              obtain ⟨A3, c3, rfl⟩ := Kd.R_slice ho3
              have f3 : OwnT W3 Vz.heap.size (.slice A3 Pa.length c3) Pa := Kd.R_lower ho3 (b2).size
              clear ho3
              refine ⟨_, rfl, ?_⟩
              have b3 := below_then b2 (b2).size hD
              refine hK.out _ _ ⟨pw_cell_below b3 HS.out.1, pw_cell_below b3 HS.out.2⟩ (fun hHeld => ?_)
              clear hD
              clear hK K
              refine norm_ (a' := ?_) ?_ ?_
              rotate_left
              · show Act.put _ (some 65) _ = _
                simp only [Act.put, List.setIfInBounds_toArray, List.set_cons_zero, List.set_cons_succ, i64_w, i32_w]
                rfl
              refine pure_ (i := 4) (N := some 61) (v := ?_) (a' := ?_) #[true, true, true, true, true, false, false, false, false, false] rfl rfl (any_of HT_.out (by kernel_rfl)) (fun _ _ _ h => h) (Or.inl ⟨by rfl, ?_⟩) ?_ ?_
              rotate_left
              · intro w'
                go_simp
                with_reducible rfl
              rotate_left
              · simp only [Act.put, List.setIfInBounds_toArray, List.set_cons_zero, List.set_cons_succ, i64_w, i32_w]
                rfl
              refine pure_ (i := 5) (N := some 66) (v := ?_) (a' := ?_) #[true, true, true, true, true, true, false, false, false, false] rfl rfl (any_of HT_.out (by kernel_rfl)) (fun _ _ _ h => h) (Or.inl ⟨by rfl, ?_⟩) ?_ ?_
              rotate_left
              · intro w'
                go_simp
                with_reducible rfl
              rotate_left
              · simp only [Act.put, List.setIfInBounds_toArray, List.set_cons_zero, List.set_cons_succ, i64_w, i32_w]
                rfl
              refine pure_ (i := 6) (N := some 67) (v := ?_) (a' := ?_) #[true, true, true, true, true, true, true, false, false, false] rfl rfl (any_of HT_.out (by kernel_rfl)) (fun _ _ _ h => h) (Or.inl ⟨by rfl, ?_⟩) ?_ ?_
              rotate_left
              · intro w'
                go_simp
                with_reducible rfl
              rotate_left
              · simp only [Act.put, List.setIfInBounds_toArray, List.set_cons_zero, List.set_cons_succ, i64_w, i32_w]
                rfl
              refine one_ (i := 7) (N := some 17) #[true, true, true, true, true, true, true, true, false, false] rfl rfl (one_of HT_.out (by kernel_rfl)) (by decide) (fun K hK => ?_)
              refine allocSp_step (by rfl) rfl rfl ?_
              obtain ⟨W7, hW7⟩ : ∃ X, X = W3.alloc (.cells #[.int .i64 0, .slice none 0 0] 26) := ⟨_, rfl⟩
              have hD : Below W3.heap.size W3 W7 := by rw [hW7]; exact (Below.refl _ _).alloc (Nat.le_refl _) _
              have f7 : W7.heap[W3.heap.size]? = some (.cells #[.int .i64 0, .slice none 0 0] 26 (0, 0)) := by rw [hW7]; exact blk_new _ _
              obtain ⟨g7, hg7⟩ : ∃ g, g = W3.heap.size := ⟨_, rfl⟩
              have e7 : Vz.heap.size ≤ g7 := by rw [hg7]; exact (b3).size
              rw [← hW7, ← hg7]
              rw [← hg7] at f7
              clear hW7 hg7
              have b7 := below_then b3 (b3).size hD
              replace f3 := ownT_below f3 hD
              refine hK.out _ _ ⟨pw_cell_below b7 HS.out.1, pw_cell_below b7 HS.out.2⟩ (fun hHeld => ?_)
              clear hD
              clear hK K
              refine norm_ (a' := ?_) ?_ ?_
              rotate_left
              · show Act.put _ (some 17) _ = _
                simp only [Act.put, List.setIfInBounds_toArray, List.set_cons_zero, List.set_cons_succ, i64_w, i32_w]
                rfl
              refine norm_ (a' := putAll _ [(64, .string ya), (65, .tuple #[.agg #[.int .i64 ((m : Int) + 1), .slice A3 Pa.length c3], .int .i64 0]), (61, .tuple #[.agg #[.int .i64 ((m : Int) + 1), .slice A3 Pa.length c3], .int .i64 0]), (66, .agg #[.int .i64 ((m : Int) + 1), .slice A3 Pa.length c3]), (67, .int .i64 0), (17, .pointer (some ⟨g7, 0, none⟩))]) ?_ (hcont ((A3, c3), g7) W7 ⟨f3, f7, e7, b7⟩)
              rfl
            · intro K hK
              refine allocSp_step (by rfl) rfl rfl ?_
              obtain ⟨W7, hW7⟩ : ∃ X, X = W2.alloc (.cells #[.int .i64 0, .slice none 0 0] 26) := ⟨_, rfl⟩
              have hD : Below W2.heap.size W2 W7 := by rw [hW7]; exact (Below.refl _ _).alloc (Nat.le_refl _) _
              have f7 : W7.heap[W2.heap.size]? = some (.cells #[.int .i64 0, .slice none 0 0] 26 (0, 0)) := by rw [hW7]; exact blk_new _ _
              obtain ⟨g7, hg7⟩ : ∃ g, g = W2.heap.size := ⟨_, rfl⟩
              have e7 : Vz.heap.size ≤ g7 := by rw [hg7]; exact (b2).size
              rw [← hW7, ← hg7]
              rw [← hg7] at f7
              clear hW7 hg7
              have b7 := below_then b2 (b2).size hD
              refine hK.out _ _ ⟨pw_cell_below b7 HS.out.1, pw_cell_below b7 HS.out.2⟩ (fun hHeld => ?_)
              clear hD
              clear hK K
              refine norm_ (a' := ?_) ?_ ?_
              rotate_left
              · show Act.put _ (some 17) _ = _
                simp only [Act.put, List.setIfInBounds_toArray, List.set_cons_zero, List.set_cons_succ, i64_w, i32_w]
                rfl
              refine one_ (i := 3) (N := some 65) #[true, true, true, true, false, false, false, true, false, false] rfl rfl (one_of HT_.out (by kernel_rfl)) (by decide) (fun K hK => ?_)
              refine goes_ Try.func9 (by kernel_rfl) rfl #[.agg #[.int .i64 (m : Int), .slice As N.length cs], .string ya] (by rfl) rfl rfl (by simp only [List.map_toArray, List.map_cons, List.map_nil]; rfl) ?_
              refine (span_Push.calls (m : Int) As cs N ya ((m : Int) + 1) Pa 0 W7 (Kd.C_below HPV.out b7) HLN.out HPUz.out).mono ?_
              rintro e W3 ⟨v3, rfl, ho3, hD⟩
              obtain ⟨A3, c3, rfl⟩ := Kd.R_slice ho3
              have f3 : OwnT W3 Vz.heap.size (.slice A3 Pa.length c3) Pa := Kd.R_lower ho3 (b7).size
              clear ho3
              refine ⟨_, rfl, ?_⟩
              have b3 := below_then b7 (b7).size hD
              replace f7 := (hD.block _ (blk_lt f7)).trans f7
              refine hK.out _ _ ⟨pw_cell_below b3 HS.out.1, pw_cell_below b3 HS.out.2⟩ (fun hHeld => ?_)
              clear hD
              clear hK K
              refine norm_ (a' := ?_) ?_ ?_
              rotate_left
              · show Act.put _ (some 65) _ = _
                simp only [Act.put, List.setIfInBounds_toArray, List.set_cons_zero, List.set_cons_succ, i64_w, i32_w]
                rfl
              refine pure_ (i := 4) (N := some 61) (v := ?_) (a' := ?_) #[true, true, true, true, true, false, false, true, false, false] rfl rfl (any_of HT_.out (by kernel_rfl)) (fun _ _ _ h => h) (Or.inl ⟨by rfl, ?_⟩) ?_ ?_
              rotate_left
              · intro w'
                go_simp
                with_reducible rfl
              rotate_left
              · simp only [Act.put, List.setIfInBounds_toArray, List.set_cons_zero, List.set_cons_succ, i64_w, i32_w]
                rfl
              refine pure_ (i := 5) (N := some 66) (v := ?_) (a' := ?_) #[true, true, true, true, true, true, false, true, false, false] rfl rfl (any_of HT_.out (by kernel_rfl)) (fun _ _ _ h => h) (Or.inl ⟨by rfl, ?_⟩) ?_ ?_
              rotate_left
              · intro w'
                go_simp
                with_reducible rfl
              rotate_left
              · simp only [Act.put, List.setIfInBounds_toArray, List.set_cons_zero, List.set_cons_succ, i64_w, i32_w]
                rfl
              refine pure_ (i := 6) (N := some 67) (v := ?_) (a' := ?_) #[true, true, true, true, true, true, true, true, false, false] rfl rfl (any_of HT_.out (by kernel_rfl)) (fun _ _ _ h => h) (Or.inl ⟨by rfl, ?_⟩) ?_ ?_
              rotate_left
              · intro w'
                go_simp
                with_reducible rfl
              rotate_left
              · simp only [Act.put, List.setIfInBounds_toArray, List.set_cons_zero, List.set_cons_succ, i64_w, i32_w]
                rfl
              refine norm_ (a' := putAll _ [(64, .string ya), (65, .tuple #[.agg #[.int .i64 ((m : Int) + 1), .slice A3 Pa.length c3], .int .i64 0]), (61, .tuple #[.agg #[.int .i64 ((m : Int) + 1), .slice A3 Pa.length c3], .int .i64 0]), (66, .agg #[.int .i64 ((m : Int) + 1), .slice A3 Pa.length c3]), (67, .int .i64 0), (17, .pointer (some ⟨g7, 0, none⟩))]) ?_ (hcont ((A3, c3), g7) W3 ⟨f3, f7, e7, b3⟩)
              rfl
          · intro K hK
            refine allocSp_step (by rfl) rfl rfl ?_
            obtain ⟨W7, hW7⟩ : ∃ X, X = Vz.alloc (.cells #[.int .i64 0, .slice none 0 0] 26) := ⟨_, rfl⟩
            have hD : Below Vz.heap.size Vz W7 := by rw [hW7]; exact (Below.refl _ _).alloc (Nat.le_refl _) _
            have f7 : W7.heap[Vz.heap.size]? = some (.cells #[.int .i64 0, .slice none 0 0] 26 (0, 0)) := by rw [hW7]; exact blk_new _ _
            obtain ⟨g7, hg7⟩ : ∃ g, g = Vz.heap.size := ⟨_, rfl⟩
            have e7 : Vz.heap.size ≤ g7 := by rw [hg7]; exact ((Below.refl Vz.heap.size Vz)).size
            rw [← hW7, ← hg7]
            rw [← hg7] at f7
            clear hW7 hg7
            have b7 := below_then (Below.refl Vz.heap.size Vz) ((Below.refl Vz.heap.size Vz)).size hD
            refine hK.out _ _ ⟨pw_cell_below b7 HS.out.1, pw_cell_below b7 HS.out.2⟩ (fun hHeld => ?_)
            clear hD
            clear hK K
            refine norm_ (a' := ?_) ?_ ?_
            rotate_left
            · show Act.put _ (some 17) _ = _
              simp only [Act.put, List.setIfInBounds_toArray, List.set_cons_zero, List.set_cons_succ, i64_w, i32_w]
              rfl
            refine one_ (i := 2) (N := some 64) #[true, true, true, false, false, false, false, true, false, false] rfl rfl (one_of HT_.out (by kernel_rfl)) (by decide) (fun K hK => ?_)
            refine goes_ Try.func18 (by kernel_rfl) rfl #[.slice A1 la.length c1] (by rfl) rfl rfl (by simp only [List.map_toArray, List.map_cons, List.map_nil]; rfl) ?_
            refine (F.hash_Leaf.calls A1 c1 la ya W7 (Kd.C_below HRV.out b7) HLA.out HSA.out).mono ?_
            rintro e W2 ⟨rfl, hD⟩
            refine ⟨_, rfl, ?_⟩
            have b2 := below_then b7 (b7).size hD
            replace f7 := (hD.block _ (blk_lt f7)).trans f7
            refine hK.out _ _ ⟨pw_cell_below b2 HS.out.1, pw_cell_below b2 HS.out.2⟩ (fun hHeld => ?_)
            clear hD
            clear hK K
            refine norm_ (a' := ?_) ?_ ?_
            rotate_left
            · show Act.put _ (some 64) _ = _
              simp only [Act.put, List.setIfInBounds_toArray, List.set_cons_zero, List.set_cons_succ, i64_w, i32_w]
              rfl
            refine one_ (i := 3) (N := some 65) #[true, true, true, true, false, false, false, true, false, false] rfl rfl (one_of HT_.out (by kernel_rfl)) (by decide) (fun K hK => ?_)
            refine goes_ Try.func9 (by kernel_rfl) rfl #[.agg #[.int .i64 (m : Int), .slice As N.length cs], .string ya] (by rfl) rfl rfl (by simp only [List.map_toArray, List.map_cons, List.map_nil]; rfl) ?_
            refine (span_Push.calls (m : Int) As cs N ya ((m : Int) + 1) Pa 0 W2 (Kd.C_below HPV.out b2) HLN.out HPUz.out).mono ?_
            rintro e W3 ⟨v3, rfl, ho3, hD⟩
            obtain ⟨A3, c3, rfl⟩ := Kd.R_slice ho3
            have f3 : OwnT W3 Vz.heap.size (.slice A3 Pa.length c3) Pa := Kd.R_lower ho3 (b2).size
            clear ho3
            refine ⟨_, rfl, ?_⟩
            have b3 := below_then b2 (b2).size hD
            replace f7 := (hD.block _ (blk_lt f7)).trans f7
            refine hK.out _ _ ⟨pw_cell_below b3 HS.out.1, pw_cell_below b3 HS.out.2⟩ (fun hHeld => ?_)
            clear hD
            clear hK K
            refine norm_ (a' := ?_) ?_ ?_
            rotate_left
            · show Act.put _ (some 65) _ = _
              simp only [Act.put, List.setIfInBounds_toArray, List.set_cons_zero, List.set_cons_succ, i64_w, i32_w]
              rfl
            refine pure_ (i := 4) (N := some 61) (v := ?_) (a' := ?_) #[true, true, true, true, true, false, false, true, false, false] rfl rfl (any_of HT_.out (by kernel_rfl)) (fun _ _ _ h => h) (Or.inl ⟨by rfl, ?_⟩) ?_ ?_
            rotate_left
            · intro w'
              go_simp
              with_reducible rfl
            rotate_left
            · simp only [Act.put, List.setIfInBounds_toArray, List.set_cons_zero, List.set_cons_succ, i64_w, i32_w]
              rfl
            refine pure_ (i := 5) (N := some 66) (v := ?_) (a' := ?_) #[true, true, true, true, true, true, false, true, false, false] rfl rfl (any_of HT_.out (by kernel_rfl)) (fun _ _ _ h => h) (Or.inl ⟨by rfl, ?_⟩) ?_ ?_
            rotate_left
            · intro w'
              go_simp
              with_reducible rfl
            rotate_left
            · simp only [Act.put, List.setIfInBounds_toArray, List.set_cons_zero, List.set_cons_succ, i64_w, i32_w]
              rfl
            refine pure_ (i := 6) (N := some 67) (v := ?_) (a' := ?_) #[true, true, true, true, true, true, true, true, false, false] rfl rfl (any_of HT_.out (by kernel_rfl)) (fun _ _ _ h => h) (Or.inl ⟨by rfl, ?_⟩) ?_ ?_
            rotate_left
            · intro w'
              go_simp
              with_reducible rfl
            rotate_left
            · simp only [Act.put, List.setIfInBounds_toArray, List.set_cons_zero, List.set_cons_succ, i64_w, i32_w]
              rfl
            refine norm_ (a' := putAll _ [(64, .string ya), (65, .tuple #[.agg #[.int .i64 ((m : Int) + 1), .slice A3 Pa.length c3], .int .i64 0]), (61, .tuple #[.agg #[.int .i64 ((m : Int) + 1), .slice A3 Pa.length c3], .int .i64 0]), (66, .agg #[.int .i64 ((m : Int) + 1), .slice A3 Pa.length c3]), (67, .int .i64 0), (17, .pointer (some ⟨g7, 0, none⟩))]) ?_ (hcont ((A3, c3), g7) W3 ⟨f3, f7, e7, b3⟩)
            rfl
        rintro ⟨⟨Az, cz⟩, gz⟩ W9 ⟨f3, f7, e7, b9⟩
        simp only [putAll, Act.put, List.setIfInBounds_toArray, List.set_cons_zero, List.set_cons_succ]
        have HF3 := Lib.hid f3
        have HF7 := Lib.hid f7
        have HB9 := Lib.hid b9
        have HE7 := Lib.hid e7
        clear f3 f7 b9 e7
        have z0 : W9.cell? ⟨gz, 0, none⟩ = some (.int .i64 0) := by rw [blk_cell HF7.out]; rfl
        have z1 : W9.cell? ⟨gz, 1, none⟩ = some (.slice none 0 0) := by rw [blk_cell HF7.out]; rfl
        have z2 : W9.frozen? ⟨gz, 0, none⟩ = false := blk_frozen HF7.out 0
        have z3 : W9.frozen? ⟨gz, 1, none⟩ = false := blk_frozen HF7.out 1
        refine one_ (i := 8) (N := none) #[true, true, true, true, true, true, true, true, true, false] rfl rfl (one_of HT_.out (by kernel_rfl)) (by decide) (fun K hK => ?_)
        refine skip_ (w1 := (W9.setCell ⟨gz, 0, none⟩ (.int .i64 ((m : Int) + 1))).setCell ⟨gz, 1, none⟩ (.slice Az Pa.length cz)) (by rfl) rfl (by go_simp) ?_
        clear z0 z1 z2 z3
        obtain ⟨Xz, hX9⟩ : ∃ X, X = (W9.setCell ⟨gz, 0, none⟩ (.int .i64 ((m : Int) + 1))).setCell ⟨gz, 1, none⟩ (.slice Az Pa.length cz) := ⟨_, rfl⟩
        have hbx : Below Vz.heap.size Vz Xz := by rw [hX9]; exact below_setCell (below_setCell HB9.out HE7.out _ _) HE7.out _ _
        have hgx : Xz.heap[gz]? = some (.cells #[.int .i64 ((m : Int) + 1), .slice Az Pa.length cz] 26 (0, 0)) := by rw [hX9]; exact set_two HF7.out _ _
        have hox : OwnT Xz Vz.heap.size (.slice Az Pa.length cz) Pa := by rw [hX9]; exact ownT_set (ownT_set HF3.out HF7.out (by decide) _ _) (blk_set HF7.out _ _) (by decide) _ _
        rw [← hX9]
        clear hX9 HF3 HF7 HB9 HE7
        refine hK.out _ _ ⟨pw_cell_below hbx HS.out.1, pw_cell_below hbx HS.out.2⟩ (fun hHeld => ?_)
        clear hK K
        refine pure_ (i := 9) (N := some 18) (v := ?_) (a' := ?_) #[true, true, true, true, true, true, true, true, true, true] rfl rfl (any_of HT_.out (by kernel_rfl)) (fun _ _ _ h => h) (Or.inl ⟨by rfl, ?_⟩) ?_ ?_
        rotate_left
        · intro w'
          go_simp
          with_reducible rfl
        rotate_left
        · simp only [Act.put, List.setIfInBounds_toArray, List.set_cons_zero, List.set_cons_succ, i64_w, i32_w]
          rfl
        refine done_ (done_of HT_.out (by kernel_rfl)) ?_
        have HGXz := Lib.hid hgx
        have HOXz := Lib.hid (Kd.R_reads' hox)
        have hstep := below_then HDV.out HDV.out.size hbx
        have HBn := Lib.hid (below_then HB_.out HB_.out.size hstep)
        have HGn := Lib.hid ((hstep.block _ (blk_lt HG_.out)).trans HG_.out)
        have HPn := Lib.hid (Kd.C_below HPN.out hstep)
        have n_HOF := Lib.hid (And.intro HOF.out.1 (And.intro HOF.out.2.1 (Kd.C_below HOF.out.2.2 hstep)))
        clear HOF
        have HOF := n_HOF
        clear n_HOF
        have n_HGXx := Lib.hid ((hstep.block _ (blk_lt HGXx.out)).trans HGXx.out)
        clear HGXx
        have HGXx := n_HGXx
        clear n_HGXx
        have n_HOXx := Lib.hid (And.intro HOXx.out.1 (And.intro HOXx.out.2.1 (Kd.C_below HOXx.out.2.2 hstep)))
        clear HOXx
        have HOXx := n_HOXx
        clear n_HOXx
        have n_HGXy := Lib.hid ((hstep.block _ (blk_lt HGXy.out)).trans HGXy.out)
        clear HGXy
        have HGXy := n_HGXy
        clear n_HGXy
        have n_HOXy := Lib.hid (And.intro HOXy.out.1 (And.intro HOXy.out.2.1 (Kd.C_below HOXy.out.2.2 hstep)))
        clear HOXy
        have HOXy := n_HOXy
        clear n_HOXy
        clear HB_ HG_ HPN
        have HB_ := HBn
        have HG_ := HGn
        have HPN := HPn
        clear HBn HGn HPn hstep hbx hgx hox HDV HS HPV HRV HT_ HW_ hHeld
        go_wp2
        have c0_ : Xz.cell? ⟨gs, 1, none⟩ = some (.slice As N.length cs) := by rw [blk_cell HG_.out]; rfl
        have cx0_ : Xz.cell? ⟨gx, 0, none⟩ = some (.int .i64 ((m : Int) + 1)) := by rw [blk_cell HGXx.out]; rfl
        have cx1_ : Xz.cell? ⟨gx, 1, none⟩ = some (.slice Ax Pa.length cx) := by rw [blk_cell HGXx.out]; rfl
        have cz0_ : Xz.cell? ⟨gz, 0, none⟩ = some (.int .i64 ((m : Int) + 1)) := by rw [blk_cell HGXz.out]; rfl
        have cz1_ : Xz.cell? ⟨gz, 1, none⟩ = some (.slice Az Pa.length cz) := by rw [blk_cell HGXz.out]; rfl
        have cy0_ : Xz.cell? ⟨gy, 0, none⟩ = some (.int .i64 ((m : Int) + 1)) := by rw [blk_cell HGXy.out]; rfl
        refine start_ (n := 39) (S := fun w' => w'.cell? ⟨gs, 1, none⟩ = some (.slice As N.length cs) ∧ w'.cell? ⟨gx, 0, none⟩ = some (.int .i64 ((m : Int) + 1)) ∧ w'.cell? ⟨gx, 1, none⟩ = some (.slice Ax Pa.length cx) ∧ w'.cell? ⟨gz, 0, none⟩ = some (.int .i64 ((m : Int) + 1)) ∧ w'.cell? ⟨gz, 1, none⟩ = some (.slice Az Pa.length cz) ∧ w'.cell? ⟨gy, 0, none⟩ = some (.int .i64 ((m : Int) + 1))) (ds := []) #[false, false, false, false, false, false, false, false, false, false, false, false, false, false, false, false, false, false, false, false, false, false, false, false, false, false, false, false, false, false, false, false, false, false, false, false, false, false, false] (by kernel_rfl) rfl rfl ⟨by rw [World.cell?_drew]; exact c0_, by rw [World.cell?_drew]; exact cx0_, by rw [World.cell?_drew]; exact cx1_, by rw [World.cell?_drew]; exact cz0_, by rw [World.cell?_drew]; exact cz1_, by rw [World.cell?_drew]; exact cy0_⟩ (fun hHeld => ?_); refine with_tabW kp12_tab kp12_bits (fun HT_ HW_ => ?_)
        have hdv := below_drew1 (Below.refl Xz.heap.size Xz)
        have HDV := Lib.hid hdv
        clear hdv c0_ cx0_ cx1_ cz0_ cz1_ cy0_
        generalize Xz.drew = Vz at *
        have HS := Lib.hid hHeld
        have HPV := Lib.hid (Kd.C_below HPN.out HDV.out)
        have VHOF := Lib.hid (Kd.C_below HOF.out.2.2 HDV.out)
        have VHOXx := Lib.hid (Kd.C_below HOXx.out.2.2 HDV.out)
        have VHOXz := Lib.hid (Kd.C_below HOXz.out.2.2 HDV.out)
        refine pure_ (i := 0) (N := some 68) (v := ?_) (a' := ?_) #[true, false, false, false, false, false, false, false, false, false, false, false, false, false, false, false, false, false, false, false, false, false, false, false, false, false, false, false, false, false, false, false, false, false, false, false, false, false, false] rfl rfl (any_of HT_.out (by kernel_rfl)) (fun _ _ _ h => h) (Or.inl ⟨by rfl, ?_⟩) ?_ ?_
        rotate_left
        · intro w'
          go_simp
          with_reducible rfl
        rotate_left
        · simp only [Act.put, List.setIfInBounds_toArray, List.set_cons_zero, List.set_cons_succ, i64_w, i32_w]
          rfl
        refine pure_ (i := 1) (N := some 69) (v := ?_) (a' := ?_) #[true, true, false, false, false, false, false, false, false, false, false, false, false, false, false, false, false, false, false, false, false, false, false, false, false, false, false, false, false, false, false, false, false, false, false, false, false, false, false] rfl rfl (any_of HT_.out (by kernel_rfl)) (fun _ _ _ h => h) (Or.inl ⟨by rfl, ?_⟩) ?_ ?_
        rotate_left
        · intro w'
          go_simp
          with_reducible rfl
        rotate_left
        · simp only [Act.put, List.setIfInBounds_toArray, List.set_cons_zero, List.set_cons_succ, i64_w, i32_w]
          rfl
        refine pure_ (i := 2) (N := some 70) (v := ?_) (a' := ?_) #[true, true, true, false, false, false, false, false, false, false, false, false, false, false, false, false, false, false, false, false, false, false, false, false, false, false, false, false, false, false, false, false, false, false, false, false, false, false, false] rfl rfl (any_of HT_.out (by kernel_rfl)) (fun _ _ _ h => h) (Or.inl ⟨by rfl, ?_⟩) ?_ ?_
        rotate_left
        · intro w'
          go_simp
          with_reducible rfl
        rotate_left
        · simp only [Act.put, List.setIfInBounds_toArray, List.set_cons_zero, List.set_cons_succ, i64_w, i32_w]
          rfl
        refine pure_ (i := 3) (N := some 71) (v := ?_) (a' := ?_) #[true, true, true, true, false, false, false, false, false, false, false, false, false, false, false, false, false, false, false, false, false, false, false, false, false, false, false, false, false, false, false, false, false, false, false, false, false, false, false] rfl rfl (any_of HT_.out (by kernel_rfl)) (fun _ _ _ h => h) (Or.inl ⟨by rfl, ?_⟩) ?_ ?_
        rotate_left
        · intro w'
          go_simp
          with_reducible rfl
        rotate_left
        · simp only [Act.put, List.setIfInBounds_toArray, List.set_cons_zero, List.set_cons_succ, i64_w, i32_w]
          rfl
        refine pure_ (i := 4) (N := some 72) (v := ?_) (a' := ?_) #[true, true, true, true, true, false, false, false, false, false, false, false, false, false, false, false, false, false, false, false, false, false, false, false, false, false, false, false, false, false, false, false, false, false, false, false, false, false, false] rfl rfl (any_of HT_.out (by kernel_rfl)) (fun _ _ _ h => h) (Or.inl ⟨by rfl, ?_⟩) ?_ ?_
        rotate_left
        · intro w'
          go_simp
          with_reducible rfl
        rotate_left
        · simp only [Act.put, List.setIfInBounds_toArray, List.set_cons_zero, List.set_cons_succ, i64_w, i32_w]
          rfl
        refine pure_ (i := 5) (N := some 73) (v := ?_) (a' := ?_) #[true, true, true, true, true, true, false, false, false, false, false, false, false, false, false, false, false, false, false, false, false, false, false, false, false, false, false, false, false, false, false, false, false, false, false, false, false, false, false] rfl rfl (any_of HT_.out (by kernel_rfl)) (fun _ _ _ h => h) (Or.inl ⟨by rfl, ?_⟩) ?_ ?_
        rotate_left
        · intro w'
          go_simp
          with_reducible rfl
        rotate_left
        · simp only [Act.put, List.setIfInBounds_toArray, List.set_cons_zero, List.set_cons_succ, i64_w, i32_w]
          rfl
        refine pure_ (i := 6) (N := some 74) (v := ?_) (a' := ?_) #[true, true, true, true, true, true, true, false, false, false, false, false, false, false, false, false, false, false, false, false, false, false, false, false, false, false, false, false, false, false, false, false, false, false, false, false, false, false, false] rfl rfl (any_of HT_.out (by kernel_rfl)) (fun _ _ _ h => h) (Or.inl ⟨by rfl, ?_⟩) ?_ ?_
        rotate_left
        · intro w'
          go_simp
          with_reducible rfl
        rotate_left
        · simp only [Act.put, List.setIfInBounds_toArray, List.set_cons_zero, List.set_cons_succ, i64_w, i32_w]
          rfl
        refine pure_ (i := 7) (N := some 75) (v := ?_) (a' := ?_) #[true, true, true, true, true, true, true, true, false, false, false, false, false, false, false, false, false, false, false, false, false, false, false, false, false, false, false, false, false, false, false, false, false, false, false, false, false, false, false] rfl rfl (any_of HT_.out (by kernel_rfl)) (fun _ _ _ h => h) (Or.inl ⟨by rfl, ?_⟩) ?_ ?_
        rotate_left
        · intro w'
          go_simp
          with_reducible rfl
        rotate_left
        · simp only [Act.put, List.setIfInBounds_toArray, List.set_cons_zero, List.set_cons_succ, i64_w, i32_w]
          rfl
        refine pure_ (i := 8) (N := some 76) (v := ?_) (a' := ?_) #[true, true, true, true, true, true, true, true, true, false, false, false, false, false, false, false, false, false, false, false, false, false, false, false, false, false, false, false, false, false, false, false, false, false, false, false, false, false, false] rfl rfl (any_of HT_.out (by kernel_rfl)) (fun _ _ _ h => h) (Or.inl ⟨by rfl, ?_⟩) ?_ ?_
        rotate_left
        · intro w'
          go_simp
          with_reducible rfl
        rotate_left
        · simp only [Act.put, List.setIfInBounds_toArray, List.set_cons_zero, List.set_cons_succ, i64_w, i32_w]
          rfl
        refine pure_ (i := 9) (N := some 77) (v := ?_) (a' := ?_) #[true, true, true, true, true, true, true, true, true, true, false, false, false, false, false, false, false, false, false, false, false, false, false, false, false, false, false, false, false, false, false, false, false, false, false, false, false, false, false] rfl rfl (any_of HT_.out (by kernel_rfl)) (fun _ _ _ h => h) (Or.inl ⟨by rfl, ?_⟩) ?_ ?_
        rotate_left
        · intro w'
          go_simp
          with_reducible rfl
        rotate_left
        · simp only [Act.put, List.setIfInBounds_toArray, List.set_cons_zero, List.set_cons_succ, i64_w, i32_w]
          rfl
        refine pure_ (i := 10) (N := some 78) (v := ?_) (a' := ?_) #[true, true, true, true, true, true, true, true, true, true, true, false, false, false, false, false, false, false, false, false, false, false, false, false, false, false, false, false, false, false, false, false, false, false, false, false, false, false, false] rfl rfl (any_of HT_.out (by kernel_rfl)) (fun _ _ _ h => h) (Or.inl ⟨by rfl, ?_⟩) ?_ ?_
        rotate_left
        · intro w'
          go_simp
          with_reducible rfl
        rotate_left
        · simp only [Act.put, List.setIfInBounds_toArray, List.set_cons_zero, List.set_cons_succ, i64_w, i32_w]
          rfl
        refine pure_ (i := 11) (N := some 79) (v := ?_) (a' := ?_) #[true, true, true, true, true, true, true, true, true, true, true, true, false, false, false, false, false, false, false, false, false, false, false, false, false, false, false, false, false, false, false, false, false, false, false, false, false, false, false] rfl rfl (any_of HT_.out (by kernel_rfl)) (fun _ _ _ h => h) (Or.inl ⟨by rfl, ?_⟩) ?_ ?_
        rotate_left
        · intro w'
          go_simp
          with_reducible rfl
        rotate_left
        · simp only [Act.put, List.setIfInBounds_toArray, List.set_cons_zero, List.set_cons_succ, i64_w, i32_w]
          rfl
        refine pure_ (i := 12) (N := some 80) (v := ?_) (a' := ?_) #[true, true, true, true, true, true, true, true, true, true, true, true, true, false, false, false, false, false, false, false, false, false, false, false, false, false, false, false, false, false, false, false, false, false, false, false, false, false, false] rfl rfl (any_of HT_.out (by kernel_rfl)) (fun _ _ _ h => h) (Or.inl ⟨by rfl, ?_⟩) ?_ ?_
        rotate_left
        · intro w'
          go_simp
          with_reducible rfl
        rotate_left
        · simp only [Act.put, List.setIfInBounds_toArray, List.set_cons_zero, List.set_cons_succ, i64_w, i32_w]
          rfl
        refine pure_ (i := 13) (N := some 81) (v := ?_) (a' := ?_) #[true, true, true, true, true, true, true, true, true, true, true, true, true, true, false, false, false, false, false, false, false, false, false, false, false, false, false, false, false, false, false, false, false, false, false, false, false, false, false] rfl rfl (any_of HT_.out (by kernel_rfl)) (fun _ _ _ h => h) (Or.inl ⟨by rfl, ?_⟩) ?_ ?_
        rotate_left
        · intro w'
          go_simp
          with_reducible rfl
        rotate_left
        · simp only [Act.put, List.setIfInBounds_toArray, List.set_cons_zero, List.set_cons_succ, i64_w, i32_w]
          rfl
        refine pure_ (i := 14) (N := some 82) (v := ?_) (a' := ?_) #[true, true, true, true, true, true, true, true, true, true, true, true, true, true, true, false, false, false, false, false, false, false, false, false, false, false, false, false, false, false, false, false, false, false, false, false, false, false, false] rfl rfl (any_of HT_.out (by kernel_rfl)) (fun _ _ _ h => h) (Or.inl ⟨by rfl, ?_⟩) ?_ ?_
        rotate_left
        · intro w'
          go_simp
          with_reducible rfl
        rotate_left
        · simp only [Act.put, List.setIfInBounds_toArray, List.set_cons_zero, List.set_cons_succ, i64_w, i32_w]
          rfl
        refine pure_ (i := 15) (N := some 83) (v := ?_) (a' := ?_) #[true, true, true, true, true, true, true, true, true, true, true, true, true, true, true, true, false, false, false, false, false, false, false, false, false, false, false, false, false, false, false, false, false, false, false, false, false, false, false] rfl rfl (any_of HT_.out (by kernel_rfl)) (fun _ _ _ h => h) (Or.inl ⟨by rfl, ?_⟩) ?_ ?_
        rotate_left
        · intro w'
          go_simp
          with_reducible rfl
        rotate_left
        · simp only [Act.put, List.setIfInBounds_toArray, List.set_cons_zero, List.set_cons_succ, i64_w, i32_w]
          rfl
        refine pure_ (i := 16) (N := some 84) (v := ?_) (a' := ?_) #[true, true, true, true, true, true, true, true, true, true, true, true, true, true, true, true, true, false, false, false, false, false, false, false, false, false, false, false, false, false, false, false, false, false, false, false, false, false, false] rfl rfl (any_of HT_.out (by kernel_rfl)) (fun _ _ _ h => h) (Or.inl ⟨by rfl, ?_⟩) ?_ ?_
        rotate_left
        · intro w'
          go_simp
          with_reducible rfl
        rotate_left
        · simp only [Act.put, List.setIfInBounds_toArray, List.set_cons_zero, List.set_cons_succ, i64_w, i32_w]
          rfl
        refine pure_ (i := 17) (N := some 85) (v := ?_) (a' := ?_) #[true, true, true, true, true, true, true, true, true, true, true, true, true, true, true, true, true, true, false, false, false, false, false, false, false, false, false, false, false, false, false, false, false, false, false, false, false, false, false] rfl rfl (any_of HT_.out (by kernel_rfl)) (fun _ _ _ h => h) (Or.inl ⟨by rfl, ?_⟩) ?_ ?_
        rotate_left
        · intro w'
          go_simp
          with_reducible rfl
        rotate_left
        · simp only [Act.put, List.setIfInBounds_toArray, List.set_cons_zero, List.set_cons_succ, i64_w, i32_w]
          rfl
        refine pure_ (i := 18) (N := some 86) (v := ?_) (a' := ?_) #[true, true, true, true, true, true, true, true, true, true, true, true, true, true, true, true, true, true, true, false, false, false, false, false, false, false, false, false, false, false, false, false, false, false, false, false, false, false, false] rfl rfl (any_of HT_.out (by kernel_rfl)) (fun _ _ _ h => h) (Or.inl ⟨by rfl, ?_⟩) ?_ ?_
        rotate_left
        · intro w'
          go_simp
          with_reducible rfl
        rotate_left
        · simp only [Act.put, List.setIfInBounds_toArray, List.set_cons_zero, List.set_cons_succ, i64_w, i32_w]
          rfl
        refine pure_ (i := 19) (N := some 87) (v := ?_) (a' := ?_) #[true, true, true, true, true, true, true, true, true, true, true, true, true, true, true, true, true, true, true, true, false, false, false, false, false, false, false, false, false, false, false, false, false, false, false, false, false, false, false] rfl rfl (any_of HT_.out (by kernel_rfl)) (fun _ _ _ h => h) (Or.inl ⟨by rfl, ?_⟩) ?_ ?_
        rotate_left
        · intro w'
          go_simp
          with_reducible rfl
        rotate_left
        · simp only [Act.put, List.setIfInBounds_toArray, List.set_cons_zero, List.set_cons_succ, i64_w, i32_w]
          rfl
        refine take_ (i := 20) (N := some 88) (v := ?_) (a' := ?_) #[true, true, true, true, true, true, true, true, true, true, true, true, true, true, true, true, true, true, true, true, true, false, false, false, false, false, false, false, false, false, false, false, false, false, false, false, false, false, false] rfl rfl (take_ofW HT_.out HW_.out (by kernel_rfl)) (fun _ _ _ h => h) (Or.inl ⟨by rfl, ?_⟩) hHeld ?_ ?_
        rotate_left
        · rintro w' ⟨s0, s1, s2, s3, s4, s5⟩
          go_simp
          with_reducible rfl
        rotate_left
        · simp only [Act.put, List.setIfInBounds_toArray, List.set_cons_zero, List.set_cons_succ, i64_w, i32_w]
          rfl
        refine one_ (i := 21) (N := some 89) #[true, true, true, true, true, true, true, true, true, true, true, true, true, true, true, true, true, true, true, true, true, true, false, false, false, false, false, false, false, false, false, false, false, false, false, false, false, false, false] rfl rfl (one_of HT_.out (by kernel_rfl)) (by decide) (fun K hK => ?_)
        refine goes_ Try.func20 (by kernel_rfl) rfl #[.slice A6 N.length c6, .slice As N.length cs] (by rfl) rfl rfl (by simp only [List.map_toArray, List.map_cons, List.map_nil]; rfl) ?_
        refine (F.sawyerref15_Same.calls kt A6 c6 N As cs N true Vz (Kd.C_below VHOF.out (Below.refl Vz.heap.size Vz)) HOF.out.2.1 (Kd.C_below HPV.out (Below.refl Vz.heap.size Vz)) HLN.out HKT.out).mono ?_
        rintro e Y21 ⟨rfl, hD⟩
        have hD : Below Vz.heap.size Vz Y21 := by obtain ⟨nd, rfl⟩ := hD; apply pw_below_drewN; exact Below.refl _ _
        refine ⟨_, rfl, ?_⟩
        have q21 := below_then (Below.refl Vz.heap.size Vz) ((Below.refl Vz.heap.size Vz)).size hD
        refine hK.out _ _ ⟨pw_cell_below q21 HS.out.1, pw_cell_below q21 HS.out.2.1, pw_cell_below q21 HS.out.2.2.1, pw_cell_below q21 HS.out.2.2.2.1, pw_cell_below q21 HS.out.2.2.2.2.1, pw_cell_below q21 HS.out.2.2.2.2.2⟩ (fun hHeld => ?_)
        clear hD
        clear hK K
        refine pure_ (i := 22) (N := some 90) (v := ?_) (a' := ?_) #[true, true, true, true, true, true, true, true, true, true, true, true, true, true, true, true, true, true, true, true, true, true, true, false, false, false, false, false, false, false, false, false, false, false, false, false, false, false, false] rfl rfl (any_of HT_.out (by kernel_rfl)) (fun _ _ _ h => h) (Or.inl ⟨by rfl, ?_⟩) ?_ ?_
        rotate_left
        · intro w'
          go_simp
          with_reducible rfl
        rotate_left
        · simp only [Act.put, List.setIfInBounds_toArray, List.set_cons_zero, List.set_cons_succ, i64_w, i32_w]
          rfl
        refine pure_ (i := 23) (N := some 91) (v := ?_) (a' := ?_) #[true, true, true, true, true, true, true, true, true, true, true, true, true, true, true, true, true, true, true, true, true, true, true, true, false, false, false, false, false, false, false, false, false, false, false, false, false, false, false] rfl rfl (any_of HT_.out (by kernel_rfl)) (fun _ _ _ h => h) (Or.inl ⟨by rfl, ?_⟩) ?_ ?_
        rotate_left
        · intro w'
          go_simp
          with_reducible rfl
        rotate_left
        · simp only [Act.put, List.setIfInBounds_toArray, List.set_cons_zero, List.set_cons_succ, i64_w, i32_w]
          rfl
        refine take_ (i := 24) (N := some 92) (v := ?_) (a' := ?_) #[true, true, true, true, true, true, true, true, true, true, true, true, true, true, true, true, true, true, true, true, true, true, true, true, true, false, false, false, false, false, false, false, false, false, false, false, false, false, false] rfl rfl (take_ofW HT_.out HW_.out (by kernel_rfl)) (fun _ _ _ h => h) (Or.inl ⟨by rfl, ?_⟩) hHeld ?_ ?_
        rotate_left
        · rintro w' ⟨s0, s1, s2, s3, s4, s5⟩
          go_simp
          with_reducible rfl
        rotate_left
        · simp only [Act.put, List.setIfInBounds_toArray, List.set_cons_zero, List.set_cons_succ, i64_w, i32_w]
          rfl
        refine take_ (i := 26) (N := some 94) (v := ?_) (a' := ?_) #[true, true, true, true, true, true, true, true, true, true, true, true, true, true, true, true, true, true, true, true, true, true, true, true, true, false, true, false, false, false, false, false, false, false, false, false, false, false, false] rfl rfl (take_ofW HT_.out HW_.out (by kernel_rfl)) (fun _ _ _ h => h) (Or.inl ⟨by rfl, ?_⟩) hHeld ?_ ?_
        rotate_left
        · rintro w' ⟨s0, s1, s2, s3, s4, s5⟩
          go_simp
          with_reducible rfl
        rotate_left
        · simp only [Act.put, List.setIfInBounds_toArray, List.set_cons_zero, List.set_cons_succ, i64_w, i32_w]
          rfl
        refine one_ (i := 25) (N := some 93) #[true, true, true, true, true, true, true, true, true, true, true, true, true, true, true, true, true, true, true, true, true, true, true, true, true, true, true, false, false, false, false, false, false, false, false, false, false, false, false] rfl rfl (one_of HT_.out (by kernel_rfl)) (by decide) (fun K hK => ?_)
        refine goes_ Try.func15 (by kernel_rfl) rfl #[.agg #[.int .i64 ((m : Int) + 1), .slice Ax Pa.length cx]] (by rfl) rfl rfl (by simp only [List.map_toArray, List.map_cons, List.map_nil]; rfl) ?_
        refine (theirs_calls ((m : Int) + 1) Ax Pa.length cx Y21).mono ?_
        rintro e Y25 ⟨rfl, hD⟩
        refine ⟨_, rfl, ?_⟩
        have q25 := below_then q21 (q21).size hD
        refine hK.out _ _ ⟨pw_cell_below q25 HS.out.1, pw_cell_below q25 HS.out.2.1, pw_cell_below q25 HS.out.2.2.1, pw_cell_below q25 HS.out.2.2.2.1, pw_cell_below q25 HS.out.2.2.2.2.1, pw_cell_below q25 HS.out.2.2.2.2.2⟩ (fun hHeld => ?_)
        clear hD
        clear hK K
        refine one_ (i := 27) (N := some 95) #[true, true, true, true, true, true, true, true, true, true, true, true, true, true, true, true, true, true, true, true, true, true, true, true, true, true, true, true, false, false, false, false, false, false, false, false, false, false, false] rfl rfl (one_of HT_.out (by kernel_rfl)) (by decide) (fun K hK => ?_)
        refine goes_ Try.func15 (by kernel_rfl) rfl #[.agg #[.int .i64 ((m : Int) + 1), .slice Az Pa.length cz]] (by rfl) rfl rfl (by simp only [List.map_toArray, List.map_cons, List.map_nil]; rfl) ?_
        refine (theirs_calls ((m : Int) + 1) Az Pa.length cz Y25).mono ?_
        rintro e Y27 ⟨rfl, hD⟩
        refine ⟨_, rfl, ?_⟩
        have q27 := below_then q25 (q25).size hD
        refine hK.out _ _ ⟨pw_cell_below q27 HS.out.1, pw_cell_below q27 HS.out.2.1, pw_cell_below q27 HS.out.2.2.1, pw_cell_below q27 HS.out.2.2.2.1, pw_cell_below q27 HS.out.2.2.2.2.1, pw_cell_below q27 HS.out.2.2.2.2.2⟩ (fun hHeld => ?_)
        clear hD
        clear hK K
        refine one_ (i := 28) (N := some 96) #[true, true, true, true, true, true, true, true, true, true, true, true, true, true, true, true, true, true, true, true, true, true, true, true, true, true, true, true, true, false, false, false, false, false, false, false, false, false, false] rfl rfl (one_of HT_.out (by kernel_rfl)) (by decide) (fun K hK => ?_)
        refine goes_ Try.func14 (by kernel_rfl) rfl #[.agg #[.int .i64 ((m : Int) + 1), .slice Ax Pa.length cx], .agg #[.int .i64 ((m : Int) + 1), .slice Az Pa.length cz]] (by rfl) rfl rfl (by simp only [List.map_toArray, List.map_cons, List.map_nil]; rfl) ?_
        refine (F.sawyerref16_Same.calls ks ((m : Int) + 1) Ax cx Pa ((m : Int) + 1) Az cz Pa true Y27 (Kd.C_below VHOXx.out q27) HOXx.out.2.1 (Kd.C_below VHOXz.out q27) HOXz.out.2.1 HKS.out).mono ?_
        rintro e Y28 ⟨rfl, hD⟩
        refine ⟨_, rfl, ?_⟩
        have q28 := below_then q27 (q27).size hD
        refine hK.out _ _ ⟨pw_cell_below q28 HS.out.1, pw_cell_below q28 HS.out.2.1, pw_cell_below q28 HS.out.2.2.1, pw_cell_below q28 HS.out.2.2.2.1, pw_cell_below q28 HS.out.2.2.2.2.1, pw_cell_below q28 HS.out.2.2.2.2.2⟩ (fun hHeld => ?_)
        clear hD
        clear hK K
        refine pure_ (i := 29) (N := some 97) (v := ?_) (a' := ?_) #[true, true, true, true, true, true, true, true, true, true, true, true, true, true, true, true, true, true, true, true, true, true, true, true, true, true, true, true, true, true, false, false, false, false, false, false, false, false, false] rfl rfl (any_of HT_.out (by kernel_rfl)) (fun _ _ _ h => h) (Or.inl ⟨by rfl, ?_⟩) ?_ ?_
        rotate_left
        · intro w'
          go_simp
          with_reducible rfl
        rotate_left
        · simp only [Act.put, List.setIfInBounds_toArray, List.set_cons_zero, List.set_cons_succ, i64_w, i32_w]
          rfl
        refine pure_ (i := 30) (N := some 98) (v := ?_) (a' := ?_) #[true, true, true, true, true, true, true, true, true, true, true, true, true, true, true, true, true, true, true, true, true, true, true, true, true, true, true, true, true, true, true, false, false, false, false, false, false, false, false] rfl rfl (any_of HT_.out (by kernel_rfl)) (fun _ _ _ h => h) (Or.inl ⟨by rfl, ?_⟩) ?_ ?_
        rotate_left
        · intro w'
          go_simp
          with_reducible rfl
        rotate_left
        · simp only [Act.put, List.setIfInBounds_toArray, List.set_cons_zero, List.set_cons_succ, i64_w, i32_w]
          rfl
        refine pure_ (i := 31) (N := some 99) (v := ?_) (a' := ?_) #[true, true, true, true, true, true, true, true, true, true, true, true, true, true, true, true, true, true, true, true, true, true, true, true, true, true, true, true, true, true, true, true, false, false, false, false, false, false, false] rfl rfl (any_of HT_.out (by kernel_rfl)) (fun _ _ _ h => h) (Or.inl ⟨by rfl, ?_⟩) ?_ ?_
        rotate_left
        · intro w'
          go_simp
          with_reducible rfl
        rotate_left
        · simp only [Act.put, List.setIfInBounds_toArray, List.set_cons_zero, List.set_cons_succ, i64_w, i32_w]
          rfl
        refine take_ (i := 32) (N := some 100) (v := ?_) (a' := ?_) #[true, true, true, true, true, true, true, true, true, true, true, true, true, true, true, true, true, true, true, true, true, true, true, true, true, true, true, true, true, true, true, true, true, false, false, false, false, false, false] rfl rfl (take_ofW HT_.out HW_.out (by kernel_rfl)) (fun _ _ _ h => h) (Or.inl ⟨by rfl, ?_⟩) hHeld ?_ ?_
        rotate_left
        · rintro w' ⟨s0, s1, s2, s3, s4, s5⟩
          go_simp
          with_reducible rfl
        rotate_left
        · simp only [Act.put, List.setIfInBounds_toArray, List.set_cons_zero, List.set_cons_succ, i64_w, i32_w]
          rfl
        refine pure_ (i := 33) (N := some 101) (v := ?_) (a' := ?_) #[true, true, true, true, true, true, true, true, true, true, true, true, true, true, true, true, true, true, true, true, true, true, true, true, true, true, true, true, true, true, true, true, true, true, false, false, false, false, false] rfl rfl (any_of HT_.out (by kernel_rfl)) (fun _ _ _ h => h) (Or.inl ⟨by rfl, ?_⟩) ?_ ?_
        rotate_left
        · intro w'
          go_simp
          with_reducible rfl
        rotate_left
        · simp only [Act.put, List.setIfInBounds_toArray, List.set_cons_zero, List.set_cons_succ, i64_w, i32_w]
          rfl
        refine pure_ (i := 34) (N := some 102) (v := ?_) (a' := ?_) #[true, true, true, true, true, true, true, true, true, true, true, true, true, true, true, true, true, true, true, true, true, true, true, true, true, true, true, true, true, true, true, true, true, true, true, false, false, false, false] rfl rfl (any_of HT_.out (by kernel_rfl)) (fun _ _ _ h => h) (Or.inl ⟨by rfl, ?_⟩) ?_ ?_
        rotate_left
        · intro w'
          go_simp
          with_reducible rfl
        rotate_left
        · simp only [Act.put, List.setIfInBounds_toArray, List.set_cons_zero, List.set_cons_succ, i64_w, i32_w]
          rfl
        refine pure_ (i := 35) (N := some 103) (v := ?_) (a' := ?_) #[true, true, true, true, true, true, true, true, true, true, true, true, true, true, true, true, true, true, true, true, true, true, true, true, true, true, true, true, true, true, true, true, true, true, true, true, false, false, false] rfl rfl (any_of HT_.out (by kernel_rfl)) (fun _ _ _ h => h) (Or.inl ⟨by rfl, ?_⟩) ?_ ?_
        rotate_left
        · intro w'
          go_simp
          with_reducible rfl
        rotate_left
        · simp only [Act.put, List.setIfInBounds_toArray, List.set_cons_zero, List.set_cons_succ, i64_w, i32_w]
          rfl
        refine pure_ (i := 36) (N := some 104) (v := ?_) (a' := ?_) #[true, true, true, true, true, true, true, true, true, true, true, true, true, true, true, true, true, true, true, true, true, true, true, true, true, true, true, true, true, true, true, true, true, true, true, true, true, false, false] rfl rfl (any_of HT_.out (by kernel_rfl)) (fun _ _ _ h => h) (Or.inl ⟨by rfl, ?_⟩) ?_ ?_
        rotate_left
        · intro w'
          go_simp
          with_reducible rfl
        rotate_left
        · simp only [Act.put, List.setIfInBounds_toArray, List.set_cons_zero, List.set_cons_succ, i64_w, i32_w]
          rfl
        refine pure_ (i := 37) (N := some 105) (v := ?_) (a' := ?_) #[true, true, true, true, true, true, true, true, true, true, true, true, true, true, true, true, true, true, true, true, true, true, true, true, true, true, true, true, true, true, true, true, true, true, true, true, true, true, false] rfl rfl (any_of HT_.out (by kernel_rfl)) (fun _ _ _ h => h) (Or.inl ⟨by rfl, ?_⟩) ?_ ?_
        rotate_left
        · intro w'
          go_simp
          with_reducible rfl
        rotate_left
        · simp only [Act.put, List.setIfInBounds_toArray, List.set_cons_zero, List.set_cons_succ, i64_w, i32_w]
          rfl
        refine pure_ (i := 38) (N := some 6) (v := ?_) (a' := ?_) #[true, true, true, true, true, true, true, true, true, true, true, true, true, true, true, true, true, true, true, true, true, true, true, true, true, true, true, true, true, true, true, true, true, true, true, true, true, true, true] rfl rfl (any_of HT_.out (by kernel_rfl)) (fun _ _ _ h => h) (Or.inl ⟨by rfl, ?_⟩) ?_ ?_
        rotate_left
        · intro w'
          go_simp
          with_reducible rfl
        rotate_left
        · simp only [Act.put, List.setIfInBounds_toArray, List.set_cons_zero, List.set_cons_succ, i64_w, i32_w]
          rfl
        refine done_ (done_of HT_.out (by kernel_rfl)) ?_
        have hend := below_then (below_then HB_.out HB_.out.size HDV.out) (below_then HB_.out HB_.out.size HDV.out).size q28
        go_wp2
        go_ret
        exact ⟨rfl, hend⟩
end Go.Proofs.Ytoihdghoopgdfaa
end
