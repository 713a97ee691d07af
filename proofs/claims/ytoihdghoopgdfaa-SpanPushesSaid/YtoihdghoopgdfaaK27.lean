-- JOINED BY A PROGRAM OF THIS PLACE (wip/tools/pack.py) out of: SpPush1
import Derived.Test.YtoihdghoopgdfaaK19
import Derived.Test.YtoihdghoopgdfaaK26
section
/-
  SpanPushes answers true for every span and leaf.
-/
namespace Go.Proofs.Ytoihdghoopgdfaa
open Go.RowKit Go.Proofs.YtoihdghoopgdfaaW.PrintWords Go.Proofs.YtoihdghoopgdfaaW.PrintLast Go.Proofs.YtoihdghoopgdfaaW.PrintMore
set_option linter.unusedVariables false
set_option linter.unusedSimpArgs false
def spp_T : Bool × List (List Nat × List Nat) := (true, [([], []), ([0], [0]), ([1], [1]), ([1], [1]), ([2, 3, 1], [1, 2, 3]), ([1, 4], [1, 4]), ([5, 1], [5]), ([6], [6]), ([7, 6, 6], [6, 7]), ([6], [6]), ([8, 9, 8, 6], [6, 8, 9]), ([6, 10], [6, 10]), ([11, 10], [11]), ([12], [12]), ([12], [12]), ([13, 14, 12], [12, 13, 14]), ([12, 15], [12, 15]), ([16, 12], [16]), ([17], [17]), ([17], [17]), ([18, 19, 17], [17, 18, 19]), ([17, 20], [17, 20]), ([21, 17], [21]), ([22], [22]), ([23, 22, 22], [22, 23]), ([24, 24, 22], [22, 24]), ([22], [22]), ([26, 25, 22], [22, 26]), ([25, 27, 22], [22, 25, 27]), ([22, 28], [22, 28]), ([29, 27, 0, 1, 2, 3, 4, 5, 6, 7, 8, 9, 10, 11, 12, 13, 14, 15, 16, 17, 18, 19, 20, 21, 22, 23, 24, 25, 26, 27, 28, 29], [29])])
def spp_B : List Nat := [0, 1, 3, 3, 15, 31, 63, 127, 255, 127, 1023, 2047, 4095, 8191, 8191, 32767, 65535, 131071, 262143, 262143, 1048575, 2097151, 4194303, 8388607, 16777215, 33554431, 8388607, 109051903, 268435455, 536870911, 1073741823]
theorem spp_tab : rtab .any (opsOf Try.f3 6) = spp_T := by kernel_rfl
theorem spp_bits : waitsOk spp_T.2 spp_B = true := by kernel_rfl
set_option maxRecDepth 100000 in
theorem mine_calls (a : Int) (A : Option Addr) (n c : Nat) (w : World) : Calls Try.prog 10 #[.agg #[.int .i64 a, .slice A n c]] w fun e w' => e = .returned (.agg #[.int .i64 a, .slice A n c]) ∧ Below w.heap.size w w' := by
  go_enter Try.func10, Try.ntmps10
  go_wp2
  refine bodyPost_ret (results_single (r := .cell 2 26) rfl (.cell (w.heap.size + 1) 26 #[.int .i64 a, .slice A n c] (0, 0) _ rfl ?_ Try.underlying26 rfl infoSp .nil)) rfl ⟨rfl, ?_⟩
  · have := blk_new (w.alloc (.cells #[.int .i64 a, .slice A n c] 24)) (.cells #[.int .i64 a, .slice A n c] 26)
    rwa [show (w.alloc (.cells #[.int .i64 a, .slice A n c] 24)).heap.size = w.heap.size + 1 by simp] at this
  · exact ((Below.refl _ _).alloc (Nat.le_refl _) _).alloc (by simp) _
set_option maxRecDepth 100000 in
theorem theirs_calls (a : Int) (A : Option Addr) (n c : Nat) (w : World) : Calls Try.prog 15 #[.agg #[.int .i64 a, .slice A n c]] w fun e w' => e = .returned (.agg #[.int .i64 a, .slice A n c]) ∧ Below w.heap.size w w' := by
  go_enter Try.func15, Try.ntmps15
  go_wp2
  refine bodyPost_ret (results_single (r := .cell 2 24) rfl (.cell (w.heap.size + 1) 24 #[.int .i64 a, .slice A n c] (0, 0) _ rfl ?_ Try.underlying24 rfl infoRs .nil)) rfl ⟨rfl, ?_⟩
  · have := blk_new (w.alloc (.cells #[.int .i64 a, .slice A n c] 26)) (.cells #[.int .i64 a, .slice A n c] 24)
    rwa [show (w.alloc (.cells #[.int .i64 a, .slice A n c] 26)).heap.size = w.heap.size + 1 by simp] at this
  · exact ((Below.refl _ _).alloc (Nat.le_refl _) _).alloc (by simp) _
theorem s6 {V V' : World} {a1 a2 a3 a4 a5 a6 : Addr} {v1 v2 v3 v4 v5 v6 : Value} (h : V.cell? a1 = some v1 ∧ V.cell? a2 = some v2 ∧ V.cell? a3 = some v3 ∧ V.cell? a4 = some v4 ∧ V.cell? a5 = some v5 ∧ V.cell? a6 = some v6) (hb : Below V.heap.size V V') :
    V'.cell? a1 = some v1 ∧ V'.cell? a2 = some v2 ∧ V'.cell? a3 = some v3 ∧ V'.cell? a4 = some v4 ∧ V'.cell? a5 = some v5 ∧ V'.cell? a6 = some v6 :=
  ⟨pw_cell_below hb h.1, pw_cell_below hb h.2.1, pw_cell_below hb h.2.2.1, pw_cell_below hb h.2.2.2.1, pw_cell_below hb h.2.2.2.2.1, pw_cell_below hb h.2.2.2.2.2⟩
theorem pushed_short (a : Int) (l : List ByteArray) (leaf : ByteArray) : (Sp.pushed a l leaf).2.1.length ≤ 65 := by
  by_cases h : spanOk a l = true ∧ a ≠ 1099511627776 ∧ leaf.size = 32
  · rw [pushed_yes h]
    obtain ⟨n0, rfl⟩ : ∃ n : Nat, a = n := ⟨a.toNat, by have := ((spanOk_iff _ _).1 h.1).1; omega⟩
    have hat := Sp.At.start h.1 h.2.2
    obtain ⟨_, h64⟩ := F.spanOk_short h.1
    exact Sp.carry_short 64 _ _ (by simp; omega)
  · rw [pushed_no h]
    simp
set_option maxRecDepth 100000 in
set_option maxHeartbeats 16000000 in
theorem pushes_walk (a : Int) (A : Option Addr) (c : Nat) (l : List ByteArray) (leaf : ByteArray) (w : World) (hr : RdT w A l) (hc : l.length ≤ c) (hl : l.length ≤ 9223372036854775806) :
    Calls Try.prog 3 #[.agg #[.int .i64 a, .slice A l.length c], .string leaf] w fun e w' => e = .returned (.bool true) ∧ Below w.heap.size w w' := by
  obtain ⟨p1, P, p3, hP⟩ : ∃ p1 P p3, Sp.pushed a l leaf = (p1, P, p3) := ⟨_, _, _, rfl⟩
  obtain ⟨q1, q2, hQ⟩ : ∃ q1 q2, F.rootR a l = (q1, q2) := ⟨_, _, rfl⟩
  obtain ⟨ck, hck⟩ : ∃ ck : Int, ck = if spanOk a l = true then 0 else 1 := ⟨_, rfl⟩
  have hPl : P.length ≤ 65 := by have := pushed_short a l leaf; rwa [hP] at this
  obtain ⟨kr, hkr⟩ := (F.rroot16_ev a l hl).rounds
  obtain ⟨kc, hkc⟩ := (F.check_ev a l hl).rounds
  obtain ⟨ks, hks⟩ := (F.same16_ev p1 P (by omega)).rounds
  rw [hQ] at hkr
  rw [← hck] at hkc
  have HPU := Lib.hid (show span_Push.f a l leaf = some (p1, P, p3) from congrArg some hP)
  have HRP := Lib.hid (show sawyerref16_Push.f a l leaf = some (p1, P, p3) from (if_pos hl).trans (congrArg some hP))
  have HRT := Lib.hid (show span_Root.f a l = some (q1, q2) from congrArg some hQ)
  have HRR := Lib.hid hkr
  have HK1 := Lib.hid (show span_Check.f a l = some ck from congrArg some hck.symm)
  have HK2 := Lib.hid hkc
  have HSM := Lib.hid hks
  have HR := Lib.hid hr
  have HLC := Lib.hid hc
  obtain ⟨n, hn⟩ : ∃ n, n = l.length := ⟨_, rfl⟩
  have HN := Lib.hid hn
  rw [← hn]
  clear hP hQ hck hkr hkc hks hr hc hl hn hPl
  go_enter Try.func3, Try.ntmps3
  go_wp2_with fail
  refine (awake16_calls _).mono ?_
  rintro e w1 ⟨rfl, hb1⟩
  have HG1 := Lib.hid ((hb1.block w.heap.size (by simp)).trans (blk_new w _))
  have HB1 := Lib.hid (below_then ((Below.refl w.heap.size w).alloc (Nat.le_refl _) _) (by simp) hb1)
  obtain ⟨hcl1, hfz1⟩ := bcell hb1
  clear hb1
  go_wp2_with fail
  refine (mine_calls a A n c w1).mono ?_
  rintro e w2 ⟨rfl, hb2⟩
  have HG2 := Lib.hid ((hb2.block _ (blk_lt HG1.out)).trans HG1.out)
  have HB2 := Lib.hid (below_then HB1.out HB1.out.size hb2)
  clear hb2 hcl1 hfz1
  go_wp2_with fail
  have hPu := span_Push.calls a A c l leaf p1 P p3 w2 (Kd.C_below HR.out HB2.out) HLC.out HPU.out
  rw [← HN.out] at hPu
  refine hPu.mono ?_
  rintro e w3 ⟨v3, rfl, ho3, hb3⟩
  obtain ⟨A3, c3, rfl⟩ := Kd.R_slice ho3
  have HRD3 := Lib.hid (Kd.R_reads' ho3)
  have HG3 := Lib.hid ((hb3.block _ (blk_lt HG2.out)).trans HG2.out)
  have HB3 := Lib.hid (below_then HB2.out HB2.out.size hb3)
  have c30 : w3.cell? ⟨w.heap.size, 0, none⟩ = some (.int .i64 a) := by rw [blk_cell HG3.out]; rfl
  have c31 : w3.cell? ⟨w.heap.size, 1, none⟩ = some (.slice A n c) := by rw [blk_cell HG3.out]; rfl
  have hlt3 := blk_lt HG3.out
  clear hPu ho3 hb3
  go_wp2_with fail
  obtain ⟨X3, hX3⟩ : ∃ X, X = w3.alloc (.cells #[.int .i64 p1, .slice A3 P.length c3] 26) := ⟨_, rfl⟩
  have hb3x : Below w3.heap.size w3 X3 := by rw [hX3]; exact (Below.refl _ _).alloc (Nat.le_refl _) _
  have hG6 : X3.heap[w3.heap.size]? = some (.cells #[.int .i64 p1, .slice A3 P.length c3] 26 (0, 0)) := by rw [hX3]; exact blk_new w3 _
  obtain ⟨g6, hg6⟩ : ∃ g, g = w3.heap.size := ⟨_, rfl⟩
  rw [← hX3]
  rw [← hg6] at hG6 ⊢
  have HG3x := Lib.hid ((hb3x.block _ (blk_lt HG3.out)).trans HG3.out)
  have HB3x := Lib.hid (below_then HB3.out HB3.out.size hb3x)
  have HP3x := Lib.hid (Kd.C_below HRD3.out.2.2 hb3x)
  have HL3 := Lib.hid HRD3.out.2.1
  have HG6 := Lib.hid hG6
  clear hX3 hb3x hG6 hg6 c30 c31 hlt3 HG3 HB3 HRD3 HG1 HB1 HG2 HB2
  have hPr := sawyerref16_Push.calls a A c l leaf p1 P p3 X3 (Kd.C_below HR.out HB3x.out) HLC.out HRP.out
  rw [← HN.out] at hPr
  refine hPr.mono ?_
  rintro e w4 ⟨v4, rfl, ho4, hb4⟩
  obtain ⟨A4, c4, rfl⟩ := Kd.R_slice ho4
  have HRD4 := Lib.hid (Kd.R_reads' ho4)
  have HG4 := Lib.hid ((hb4.block _ (blk_lt HG3x.out)).trans HG3x.out)
  have HG64 := Lib.hid ((hb4.block _ (blk_lt HG6.out)).trans HG6.out)
  have HB4 := Lib.hid (below_then HB3x.out HB3x.out.size hb4)
  have HP34 := Lib.hid (Kd.C_below HP3x.out hb4)
  have c40 : w4.cell? ⟨w.heap.size, 0, none⟩ = some (.int .i64 a) := by rw [blk_cell HG4.out]; rfl
  have c41 : w4.cell? ⟨w.heap.size, 1, none⟩ = some (.slice A n c) := by rw [blk_cell HG4.out]; rfl
  have hlt4 := blk_lt HG4.out
  clear hPr ho4 hb4
  go_wp2_with fail
  obtain ⟨X4, hX4⟩ : ∃ X, X = w4.alloc (.cells #[.int .i64 p1, .slice A4 P.length c4] 24) := ⟨_, rfl⟩
  have hb4x : Below w4.heap.size w4 X4 := by rw [hX4]; exact (Below.refl _ _).alloc (Nat.le_refl _) _
  have hG8 : X4.heap[w4.heap.size]? = some (.cells #[.int .i64 p1, .slice A4 P.length c4] 24 (0, 0)) := by rw [hX4]; exact blk_new w4 _
  obtain ⟨g8, hg8⟩ : ∃ g, g = w4.heap.size := ⟨_, rfl⟩
  rw [← hX4]
  rw [← hg8] at hG8 ⊢
  have HG4x := Lib.hid ((hb4x.block _ (blk_lt HG4.out)).trans HG4.out)
  have HG6x := Lib.hid ((hb4x.block _ (blk_lt HG64.out)).trans HG64.out)
  have HB4x := Lib.hid (below_then HB4.out HB4.out.size hb4x)
  have HP3y := Lib.hid (Kd.C_below HP34.out hb4x)
  have HP4y := Lib.hid (Kd.C_below HRD4.out.2.2 hb4x)
  have HL4 := Lib.hid HRD4.out.2.1
  have HG8 := Lib.hid hG8
  clear hX4 hb4x hG8 hg8 c40 c41 hlt4 HG4 HG64 HB4 HRD4 HG3x HG6 HB3x HP3x HP34
  refine (mine_calls a A n c X4).mono ?_
  rintro e w5 ⟨rfl, hb5⟩
  have HB5 := Lib.hid (below_then HB4x.out HB4x.out.size hb5)
  have HD5 := Lib.hid hb5
  have HG45 := Lib.hid ((hb5.block _ (blk_lt HG4x.out)).trans HG4x.out)
  clear hb5
  go_wp2_with fail
  have hRt := span_Root.calls a A c l q1 q2 w5 (Kd.C_below HR.out HB5.out) HLC.out HRT.out
  rw [← HN.out] at hRt
  refine hRt.mono ?_
  rintro e w6 ⟨rfl, hb6⟩
  have HB6 := Lib.hid (below_then HB5.out HB5.out.size hb6)
  have HD6 := Lib.hid (below_then HD5.out HD5.out.size hb6)
  have HG46 := Lib.hid ((hb6.block _ (blk_lt HG45.out)).trans HG45.out)
  have c60 : w6.cell? ⟨w.heap.size, 0, none⟩ = some (.int .i64 a) := by rw [blk_cell HG46.out]; rfl
  have c61 : w6.cell? ⟨w.heap.size, 1, none⟩ = some (.slice A n c) := by rw [blk_cell HG46.out]; rfl
  clear hRt hb6
  go_wp2_with fail
  have hRr := F.sawyerref16_Root.calls kr a A c l q1 q2 w6 (Kd.C_below HR.out HB6.out) HLC.out HRR.out
  rw [← HN.out] at hRr
  refine hRr.mono ?_
  rintro e wx ⟨rfl, hb7⟩
  have HBX := Lib.hid (below_then HB6.out HB6.out.size hb7)
  have HDX := below_then HD6.out HD6.out.size hb7
  have HGx := (HDX.block _ (blk_lt HG4x.out)).trans HG4x.out
  have HG6y := (HDX.block _ (blk_lt HG6x.out)).trans HG6x.out
  have HG8y := (HDX.block _ (blk_lt HG8.out)).trans HG8.out
  have HP3 := Lib.hid (Kd.C_below HP3y.out HDX)
  have HP4 := Lib.hid (Kd.C_below HP4y.out HDX)
  have HL := Lib.hid (Kd.C_below HR.out HBX.out)
  have S0 : wx.cell? ⟨w.heap.size, 0, none⟩ = some (.int .i64 a) := by rw [blk_cell HGx]; rfl
  have S1 : wx.cell? ⟨w.heap.size, 1, none⟩ = some (.slice A n c) := by rw [blk_cell HGx]; rfl
  have S2 : wx.cell? ⟨g6, 0, none⟩ = some (.int .i64 p1) := by rw [blk_cell HG6y]; rfl
  have S3 : wx.cell? ⟨g6, 1, none⟩ = some (.slice A3 P.length c3) := by rw [blk_cell HG6y]; rfl
  have S4 : wx.cell? ⟨g8, 0, none⟩ = some (.int .i64 p1) := by rw [blk_cell HG8y]; rfl
  have S5 : wx.cell? ⟨g8, 1, none⟩ = some (.slice A4 P.length c4) := by rw [blk_cell HG8y]; rfl
  clear hRr hb7 HDX HGx HG6y HG8y c60 c61 HG45 HG46 HG4x HG6x HG8 HB4x HB5 HB6 HD5 HD6 HP3y HP4y HR
  go_wp2
  refine start_ (n := 31) (S := fun w' => w'.cell? ⟨w.heap.size, 0, none⟩ = some (.int .i64 a) ∧ w'.cell? ⟨w.heap.size, 1, none⟩ = some (.slice A n c) ∧ w'.cell? ⟨g6, 0, none⟩ = some (.int .i64 p1) ∧ w'.cell? ⟨g6, 1, none⟩ = some (.slice A3 P.length c3) ∧ w'.cell? ⟨g8, 0, none⟩ = some (.int .i64 p1) ∧ w'.cell? ⟨g8, 1, none⟩ = some (.slice A4 P.length c4)) (ds := []) #[false, false, false, false, false, false, false, false, false, false, false, false, false, false, false, false, false, false, false, false, false, false, false, false, false, false, false, false, false, false, false] (by kernel_rfl) rfl rfl ⟨by rw [World.cell?_drew]; exact S0, by rw [World.cell?_drew]; exact S1, by rw [World.cell?_drew]; exact S2, by rw [World.cell?_drew]; exact S3, by rw [World.cell?_drew]; exact S4, by rw [World.cell?_drew]; exact S5⟩ (fun hHeld => ?_); refine with_tabW spp_tab spp_bits (fun HT_ HW_ => ?_)
  have HDV := Lib.hid (below_drew1 (Below.refl wx.heap.size wx))
  generalize wx.drew = V at *
  have HS := Lib.hid hHeld
  have HC3 := Lib.hid (Kd.C_below HP3.out HDV.out)
  have HC4 := Lib.hid (Kd.C_below HP4.out HDV.out)
  have HCL := Lib.hid (Kd.C_below HL.out HDV.out)
  have HBV := Lib.hid (below_then HBX.out HBX.out.size HDV.out)
  clear S0 S1 S2 S3 S4 S5 HP3 HP4 HL HDV HBX
  refine pure_ (i := 0) (N := some 39) (v := ?_) (a' := ?_) #[true, false, false, false, false, false, false, false, false, false, false, false, false, false, false, false, false, false, false, false, false, false, false, false, false, false, false, false, false, false, false] rfl rfl (any_of HT_.out (by kernel_rfl)) (fun _ _ _ h => h) (Or.inl ⟨by rfl, ?_⟩) ?_ ?_
  rotate_left
  · intro w'
    go_simp
    with_reducible rfl
  rotate_left
  · simp only [Act.put, List.setIfInBounds_toArray, List.set_cons_zero, List.set_cons_succ, i64_w, i32_w]
    rfl
  refine pure_ (i := 1) (N := some 40) (v := ?_) (a' := ?_) #[true, true, false, false, false, false, false, false, false, false, false, false, false, false, false, false, false, false, false, false, false, false, false, false, false, false, false, false, false, false, false] rfl rfl (any_of HT_.out (by kernel_rfl)) (fun _ _ _ h => h) (Or.inl ⟨by rfl, ?_⟩) ?_ ?_
  rotate_left
  · intro w'
    go_simp
    with_reducible rfl
  rotate_left
  · simp only [Act.put, List.setIfInBounds_toArray, List.set_cons_zero, List.set_cons_succ, i64_w, i32_w]
    rfl
  refine pure_ (i := 2) (N := some 41) (v := ?_) (a' := ?_) #[true, true, true, false, false, false, false, false, false, false, false, false, false, false, false, false, false, false, false, false, false, false, false, false, false, false, false, false, false, false, false] rfl rfl (any_of HT_.out (by kernel_rfl)) (fun _ _ _ h => h) (Or.inl ⟨by rfl, ?_⟩) ?_ ?_
  rotate_left
  · intro w'
    go_simp
    with_reducible rfl
  rotate_left
  · simp only [Act.put, List.setIfInBounds_toArray, List.set_cons_zero, List.set_cons_succ, i64_w, i32_w]
    rfl
  refine pure_ (i := 3) (N := some 42) (v := ?_) (a' := ?_) #[true, true, true, true, false, false, false, false, false, false, false, false, false, false, false, false, false, false, false, false, false, false, false, false, false, false, false, false, false, false, false] rfl rfl (any_of HT_.out (by kernel_rfl)) (fun _ _ _ h => h) (Or.inl ⟨by rfl, ?_⟩) ?_ ?_
  rotate_left
  · intro w'
    go_simp
    with_reducible rfl
  rotate_left
  · simp only [Act.put, List.setIfInBounds_toArray, List.set_cons_zero, List.set_cons_succ, i64_w, i32_w]
    rfl
  refine pure_ (i := 4) (N := some 43) (v := ?_) (a' := ?_) #[true, true, true, true, true, false, false, false, false, false, false, false, false, false, false, false, false, false, false, false, false, false, false, false, false, false, false, false, false, false, false] rfl rfl (any_of HT_.out (by kernel_rfl)) (fun _ _ _ h => h) (Or.inl ⟨by rfl, ?_⟩) ?_ ?_
  rotate_left
  · intro w'
    go_simp
    with_reducible rfl
  rotate_left
  · simp only [Act.put, List.setIfInBounds_toArray, List.set_cons_zero, List.set_cons_succ, i64_w, i32_w]
    rfl
  refine pure_ (i := 5) (N := some 44) (v := ?_) (a' := ?_) #[true, true, true, true, true, true, false, false, false, false, false, false, false, false, false, false, false, false, false, false, false, false, false, false, false, false, false, false, false, false, false] rfl rfl (any_of HT_.out (by kernel_rfl)) (fun _ _ _ h => h) (Or.inl ⟨by rfl, ?_⟩) ?_ ?_
  rotate_left
  · intro w'
    go_simp
    with_reducible rfl
  rotate_left
  · simp only [Act.put, List.setIfInBounds_toArray, List.set_cons_zero, List.set_cons_succ, i64_w, i32_w]
    rfl
  refine pure_ (i := 6) (N := some 45) (v := ?_) (a' := ?_) #[true, true, true, true, true, true, true, false, false, false, false, false, false, false, false, false, false, false, false, false, false, false, false, false, false, false, false, false, false, false, false] rfl rfl (any_of HT_.out (by kernel_rfl)) (fun _ _ _ h => h) (Or.inl ⟨by rfl, ?_⟩) ?_ ?_
  rotate_left
  · intro w'
    go_simp
    with_reducible rfl
  rotate_left
  · simp only [Act.put, List.setIfInBounds_toArray, List.set_cons_zero, List.set_cons_succ, i64_w, i32_w]
    rfl
  refine take_ (i := 7) (N := some 46) (v := ?_) (a' := ?_) #[true, true, true, true, true, true, true, true, false, false, false, false, false, false, false, false, false, false, false, false, false, false, false, false, false, false, false, false, false, false, false] rfl rfl (take_ofW HT_.out HW_.out (by kernel_rfl)) (fun _ _ _ h => h) (Or.inl ⟨by rfl, ?_⟩) hHeld ?_ ?_
  rotate_left
  · rintro w' ⟨s0, s1, s2, s3, s4, s5⟩
    go_simp
    with_reducible rfl
  rotate_left
  · simp only [Act.put, List.setIfInBounds_toArray, List.set_cons_zero, List.set_cons_succ, i64_w, i32_w]
    rfl
  refine take_ (i := 9) (N := some 48) (v := ?_) (a' := ?_) #[true, true, true, true, true, true, true, true, false, true, false, false, false, false, false, false, false, false, false, false, false, false, false, false, false, false, false, false, false, false, false] rfl rfl (take_ofW HT_.out HW_.out (by kernel_rfl)) (fun _ _ _ h => h) (Or.inl ⟨by rfl, ?_⟩) hHeld ?_ ?_
  rotate_left
  · rintro w' ⟨s0, s1, s2, s3, s4, s5⟩
    go_simp
    with_reducible rfl
  rotate_left
  · simp only [Act.put, List.setIfInBounds_toArray, List.set_cons_zero, List.set_cons_succ, i64_w, i32_w]
    rfl
  refine one_ (i := 8) (N := some 47) #[true, true, true, true, true, true, true, true, true, true, false, false, false, false, false, false, false, false, false, false, false, false, false, false, false, false, false, false, false, false, false] rfl rfl (one_of HT_.out (by kernel_rfl)) (by decide) (fun K hK => ?_)
  refine goes_ Try.func15 (by kernel_rfl) rfl #[.agg #[.int .i64 p1, .slice A3 P.length c3]] (by rfl) rfl rfl (by simp only [List.map_toArray, List.map_cons, List.map_nil]; rfl) ?_
  refine (theirs_calls p1 A3 P.length c3 V).mono ?_
  rintro e va ⟨rfl, ba⟩
  refine ⟨_, rfl, ?_⟩
  refine hK.out _ _ (s6 HS.out ba) (fun hHeld => ?_)
  clear hK K
  refine norm_ (a' := ?_) ?_ ?_
  rotate_left
  · show Act.put _ (some 47) _ = _
    simp only [Act.put, List.setIfInBounds_toArray, List.set_cons_zero, List.set_cons_succ, i64_w, i32_w]
    rfl
  have HA := Lib.hid ba
  clear ba
  refine one_ (i := 10) (N := some 49) #[true, true, true, true, true, true, true, true, true, true, true, false, false, false, false, false, false, false, false, false, false, false, false, false, false, false, false, false, false, false, false] rfl rfl (one_of HT_.out (by kernel_rfl)) (by decide) (fun K hK => ?_)
  refine goes_ Try.func14 (by kernel_rfl) rfl #[.agg #[.int .i64 p1, .slice A3 P.length c3], .agg #[.int .i64 p1, .slice A4 P.length c4]] (by rfl) rfl rfl (by simp only [List.map_toArray, List.map_cons, List.map_nil]; rfl) ?_
  refine (F.sawyerref16_Same.calls ks p1 A3 c3 P p1 A4 c4 P true va (Kd.C_below HC3.out HA.out) HL3.out (Kd.C_below HC4.out HA.out) HL4.out HSM.out).mono ?_
  rintro e vb ⟨rfl, bb⟩
  refine ⟨_, rfl, ?_⟩
  have HB := Lib.hid (below_then HA.out HA.out.size bb)
  refine hK.out _ _ (s6 HS.out HB.out) (fun hHeld => ?_)
  clear hK K
  refine norm_ (a' := ?_) ?_ ?_
  rotate_left
  · show Act.put _ (some 49) _ = _
    simp only [Act.put, List.setIfInBounds_toArray, List.set_cons_zero, List.set_cons_succ, i64_w, i32_w]
    rfl
  clear bb
  refine pure_ (i := 11) (N := some 50) (v := ?_) (a' := ?_) #[true, true, true, true, true, true, true, true, true, true, true, true, false, false, false, false, false, false, false, false, false, false, false, false, false, false, false, false, false, false, false] rfl rfl (any_of HT_.out (by kernel_rfl)) (fun _ _ _ h => h) (Or.inl ⟨by rfl, ?_⟩) ?_ ?_
  rotate_left
  · intro w'
    go_simp
    with_reducible rfl
  rotate_left
  · simp only [Act.put, List.setIfInBounds_toArray, List.set_cons_zero, List.set_cons_succ, i64_w, i32_w]
    rfl
  refine pure_ (i := 12) (N := some 51) (v := ?_) (a' := ?_) #[true, true, true, true, true, true, true, true, true, true, true, true, true, false, false, false, false, false, false, false, false, false, false, false, false, false, false, false, false, false, false] rfl rfl (any_of HT_.out (by kernel_rfl)) (fun _ _ _ h => h) (Or.inl ⟨by rfl, ?_⟩) ?_ ?_
  rotate_left
  · intro w'
    go_simp
    with_reducible rfl
  rotate_left
  · simp only [Act.put, List.setIfInBounds_toArray, List.set_cons_zero, List.set_cons_succ, i64_w, i32_w]
    rfl
  refine pure_ (i := 13) (N := some 52) (v := ?_) (a' := ?_) #[true, true, true, true, true, true, true, true, true, true, true, true, true, true, false, false, false, false, false, false, false, false, false, false, false, false, false, false, false, false, false] rfl rfl (any_of HT_.out (by kernel_rfl)) (fun _ _ _ h => h) (Or.inl ⟨by rfl, ?_⟩) ?_ ?_
  rotate_left
  · intro w'
    go_simp
    with_reducible rfl
  rotate_left
  · simp only [Act.put, List.setIfInBounds_toArray, List.set_cons_zero, List.set_cons_succ, i64_w, i32_w]
    rfl
  refine pure_ (i := 14) (N := some 53) (v := ?_) (a' := ?_) #[true, true, true, true, true, true, true, true, true, true, true, true, true, true, true, false, false, false, false, false, false, false, false, false, false, false, false, false, false, false, false] rfl rfl (any_of HT_.out (by kernel_rfl)) (fun _ _ _ h => h) (Or.inl ⟨by rfl, ?_⟩) ?_ ?_
  rotate_left
  · intro w'
    go_simp
    with_reducible rfl
  rotate_left
  · simp only [Act.put, List.setIfInBounds_toArray, List.set_cons_zero, List.set_cons_succ, i64_w, i32_w]
    rfl
  refine pure_ (i := 15) (N := some 54) (v := ?_) (a' := ?_) #[true, true, true, true, true, true, true, true, true, true, true, true, true, true, true, true, false, false, false, false, false, false, false, false, false, false, false, false, false, false, false] rfl rfl (any_of HT_.out (by kernel_rfl)) (fun _ _ _ h => h) (Or.inl ⟨by rfl, ?_⟩) ?_ ?_
  rotate_left
  · intro w'
    go_simp
    with_reducible rfl
  rotate_left
  · simp only [Act.put, List.setIfInBounds_toArray, List.set_cons_zero, List.set_cons_succ, i64_w, i32_w]
    rfl
  refine pure_ (i := 16) (N := some 55) (v := ?_) (a' := ?_) #[true, true, true, true, true, true, true, true, true, true, true, true, true, true, true, true, true, false, false, false, false, false, false, false, false, false, false, false, false, false, false] rfl rfl (any_of HT_.out (by kernel_rfl)) (fun _ _ _ h => h) (Or.inl ⟨by rfl, ?_⟩) ?_ ?_
  rotate_left
  · intro w'
    go_simp
    with_reducible rfl
  rotate_left
  · simp only [Act.put, List.setIfInBounds_toArray, List.set_cons_zero, List.set_cons_succ, i64_w, i32_w]
    rfl
  refine pure_ (i := 17) (N := some 56) (v := ?_) (a' := ?_) #[true, true, true, true, true, true, true, true, true, true, true, true, true, true, true, true, true, true, false, false, false, false, false, false, false, false, false, false, false, false, false] rfl rfl (any_of HT_.out (by kernel_rfl)) (fun _ _ _ h => h) (Or.inl ⟨by rfl, ?_⟩) ?_ ?_
  rotate_left
  · intro w'
    go_simp
    with_reducible rfl
  rotate_left
  · simp only [Act.put, List.setIfInBounds_toArray, List.set_cons_zero, List.set_cons_succ, i64_w, i32_w]
    rfl
  refine pure_ (i := 18) (N := some 57) (v := ?_) (a' := ?_) #[true, true, true, true, true, true, true, true, true, true, true, true, true, true, true, true, true, true, true, false, false, false, false, false, false, false, false, false, false, false, false] rfl rfl (any_of HT_.out (by kernel_rfl)) (fun _ _ _ h => h) (Or.inl ⟨by rfl, ?_⟩) ?_ ?_
  rotate_left
  · intro w'
    go_simp
    with_reducible rfl
  rotate_left
  · simp only [Act.put, List.setIfInBounds_toArray, List.set_cons_zero, List.set_cons_succ, i64_w, i32_w]
    rfl
  refine pure_ (i := 19) (N := some 58) (v := ?_) (a' := ?_) #[true, true, true, true, true, true, true, true, true, true, true, true, true, true, true, true, true, true, true, true, false, false, false, false, false, false, false, false, false, false, false] rfl rfl (any_of HT_.out (by kernel_rfl)) (fun _ _ _ h => h) (Or.inl ⟨by rfl, ?_⟩) ?_ ?_
  rotate_left
  · intro w'
    go_simp
    with_reducible rfl
  rotate_left
  · simp only [Act.put, List.setIfInBounds_toArray, List.set_cons_zero, List.set_cons_succ, i64_w, i32_w]
    rfl
  refine pure_ (i := 20) (N := some 59) (v := ?_) (a' := ?_) #[true, true, true, true, true, true, true, true, true, true, true, true, true, true, true, true, true, true, true, true, true, false, false, false, false, false, false, false, false, false, false] rfl rfl (any_of HT_.out (by kernel_rfl)) (fun _ _ _ h => h) (Or.inl ⟨by rfl, ?_⟩) ?_ ?_
  rotate_left
  · intro w'
    go_simp
    with_reducible rfl
  rotate_left
  · simp only [Act.put, List.setIfInBounds_toArray, List.set_cons_zero, List.set_cons_succ, i64_w, i32_w]
    rfl
  refine pure_ (i := 21) (N := some 60) (v := ?_) (a' := ?_) #[true, true, true, true, true, true, true, true, true, true, true, true, true, true, true, true, true, true, true, true, true, true, false, false, false, false, false, false, false, false, false] rfl rfl (any_of HT_.out (by kernel_rfl)) (fun _ _ _ h => h) (Or.inl ⟨by rfl, ?_⟩) ?_ ?_
  rotate_left
  · intro w'
    go_simp
    with_reducible rfl
  rotate_left
  · simp only [Act.put, List.setIfInBounds_toArray, List.set_cons_zero, List.set_cons_succ, i64_w, i32_w]
    rfl
  refine pure_ (i := 22) (N := some 61) (v := ?_) (a' := ?_) #[true, true, true, true, true, true, true, true, true, true, true, true, true, true, true, true, true, true, true, true, true, true, true, false, false, false, false, false, false, false, false] rfl rfl (any_of HT_.out (by kernel_rfl)) (fun _ _ _ h => h) (Or.inl ⟨by rfl, ?_⟩) ?_ ?_
  rotate_left
  · intro w'
    go_simp
    with_reducible rfl
  rotate_left
  · simp only [Act.put, List.setIfInBounds_toArray, List.set_cons_zero, List.set_cons_succ, i64_w, i32_w]
    rfl
  refine take_ (i := 23) (N := some 62) (v := ?_) (a' := ?_) #[true, true, true, true, true, true, true, true, true, true, true, true, true, true, true, true, true, true, true, true, true, true, true, true, false, false, false, false, false, false, false] rfl rfl (take_ofW HT_.out HW_.out (by kernel_rfl)) (fun _ _ _ h => h) (Or.inl ⟨by rfl, ?_⟩) hHeld ?_ ?_
  rotate_left
  · rintro w' ⟨s0, s1, s2, s3, s4, s5⟩
    go_simp
    with_reducible rfl
  rotate_left
  · simp only [Act.put, List.setIfInBounds_toArray, List.set_cons_zero, List.set_cons_succ, i64_w, i32_w]
    rfl
  refine take_ (i := 26) (N := some 65) (v := ?_) (a' := ?_) #[true, true, true, true, true, true, true, true, true, true, true, true, true, true, true, true, true, true, true, true, true, true, true, true, false, false, true, false, false, false, false] rfl rfl (take_ofW HT_.out HW_.out (by kernel_rfl)) (fun _ _ _ h => h) (Or.inl ⟨by rfl, ?_⟩) hHeld ?_ ?_
  rotate_left
  · rintro w' ⟨s0, s1, s2, s3, s4, s5⟩
    go_simp
    with_reducible rfl
  rotate_left
  · simp only [Act.put, List.setIfInBounds_toArray, List.set_cons_zero, List.set_cons_succ, i64_w, i32_w]
    rfl
  refine one_ (i := 24) (N := some 63) #[true, true, true, true, true, true, true, true, true, true, true, true, true, true, true, true, true, true, true, true, true, true, true, true, true, false, true, false, false, false, false] rfl rfl (one_of HT_.out (by kernel_rfl)) (by decide) (fun K hK => ?_)
  refine goes_ Try.func10 (by kernel_rfl) rfl #[.agg #[.int .i64 a, .slice A n c]] (by rfl) rfl rfl (by simp only [List.map_toArray, List.map_cons, List.map_nil]; rfl) ?_
  refine (mine_calls a A n c vb).mono ?_
  rintro e vc ⟨rfl, bc⟩
  refine ⟨_, rfl, ?_⟩
  have HC := Lib.hid (below_then HB.out HB.out.size bc)
  refine hK.out _ _ (s6 HS.out HC.out) (fun hHeld => ?_)
  clear hK K
  refine norm_ (a' := ?_) ?_ ?_
  rotate_left
  · show Act.put _ (some 63) _ = _
    simp only [Act.put, List.setIfInBounds_toArray, List.set_cons_zero, List.set_cons_succ, i64_w, i32_w]
    rfl
  clear bc
  refine one_ (i := 25) (N := some 64) #[true, true, true, true, true, true, true, true, true, true, true, true, true, true, true, true, true, true, true, true, true, true, true, true, true, true, true, false, false, false, false] rfl rfl (one_of HT_.out (by kernel_rfl)) (by decide) (fun K hK => ?_)
  refine goes_ Try.func16 (by kernel_rfl) rfl #[.agg #[.int .i64 a, .slice A n c]] (by rfl) rfl rfl (by simp only [List.map_toArray, List.map_cons, List.map_nil]; rfl) ?_
  have hK1 := span_Check.calls a A c l ck vc (Kd.C_below HCL.out HC.out) HLC.out HK1.out
  rw [← HN.out] at hK1
  refine hK1.mono ?_
  rintro e vd ⟨rfl, bd⟩
  refine ⟨_, rfl, ?_⟩
  have HD := Lib.hid (below_then HC.out HC.out.size bd)
  refine hK.out _ _ (s6 HS.out HD.out) (fun hHeld => ?_)
  clear hK K
  refine norm_ (a' := ?_) ?_ ?_
  rotate_left
  · show Act.put _ (some 64) _ = _
    simp only [Act.put, List.setIfInBounds_toArray, List.set_cons_zero, List.set_cons_succ, i64_w, i32_w]
    rfl
  clear bd hK1
  refine one_ (i := 27) (N := some 66) #[true, true, true, true, true, true, true, true, true, true, true, true, true, true, true, true, true, true, true, true, true, true, true, true, true, true, true, true, false, false, false] rfl rfl (one_of HT_.out (by kernel_rfl)) (by decide) (fun K hK => ?_)
  refine goes_ Try.func17 (by kernel_rfl) rfl #[.agg #[.int .i64 a, .slice A n c]] (by rfl) rfl rfl (by simp only [List.map_toArray, List.map_cons, List.map_nil]; rfl) ?_
  have hK2 := F.sawyerref16_Check.calls kc a A c l ck vd (Kd.C_below HCL.out HD.out) HLC.out HK2.out
  rw [← HN.out] at hK2
  refine hK2.mono ?_
  rintro e ve ⟨rfl, be⟩
  refine ⟨_, rfl, ?_⟩
  have HE := Lib.hid (below_then HD.out HD.out.size be)
  refine hK.out _ _ (s6 HS.out HE.out) (fun hHeld => ?_)
  clear hK K
  refine norm_ (a' := ?_) ?_ ?_
  rotate_left
  · show Act.put _ (some 66) _ = _
    simp only [Act.put, List.setIfInBounds_toArray, List.set_cons_zero, List.set_cons_succ, i64_w, i32_w]
    rfl
  clear be hK2
  refine pure_ (i := 28) (N := some 67) (v := ?_) (a' := ?_) #[true, true, true, true, true, true, true, true, true, true, true, true, true, true, true, true, true, true, true, true, true, true, true, true, true, true, true, true, true, false, false] rfl rfl (any_of HT_.out (by kernel_rfl)) (fun _ _ _ h => h) (Or.inl ⟨by rfl, ?_⟩) ?_ ?_
  rotate_left
  · intro w'
    go_simp
    with_reducible rfl
  rotate_left
  · simp only [Act.put, List.setIfInBounds_toArray, List.set_cons_zero, List.set_cons_succ, i64_w, i32_w]
    rfl
  refine pure_ (i := 29) (N := some 68) (v := ?_) (a' := ?_) #[true, true, true, true, true, true, true, true, true, true, true, true, true, true, true, true, true, true, true, true, true, true, true, true, true, true, true, true, true, true, false] rfl rfl (any_of HT_.out (by kernel_rfl)) (fun _ _ _ h => h) (Or.inl ⟨by rfl, ?_⟩) ?_ ?_
  rotate_left
  · intro w'
    go_simp
    with_reducible rfl
  rotate_left
  · simp only [Act.put, List.setIfInBounds_toArray, List.set_cons_zero, List.set_cons_succ, i64_w, i32_w]
    rfl
  refine pure_ (i := 30) (N := some 4) (v := ?_) (a' := ?_) #[true, true, true, true, true, true, true, true, true, true, true, true, true, true, true, true, true, true, true, true, true, true, true, true, true, true, true, true, true, true, true] rfl rfl (any_of HT_.out (by kernel_rfl)) (fun _ _ _ h => h) (Or.inl ⟨by rfl, ?_⟩) ?_ ?_
  rotate_left
  · intro w'
    go_simp
    with_reducible rfl
  rotate_left
  · simp only [Act.put, List.setIfInBounds_toArray, List.set_cons_zero, List.set_cons_succ, i64_w, i32_w]
    rfl
  refine done_ (done_of HT_.out (by kernel_rfl)) ?_

  clear HT_ HW_ hHeld
  go_wp2
  go_ret
  exact ⟨rfl, below_then HBV.out HBV.out.size HE.out⟩
end Go.Proofs.Ytoihdghoopgdfaa
end
