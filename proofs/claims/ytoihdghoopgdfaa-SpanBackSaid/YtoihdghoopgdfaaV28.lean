-- JOINED BY A PROGRAM OF THIS PLACE (wip/tools/pack.py) out of: SpBack
import Derived.Test.YtoihdghoopgdfaaV8
import Derived.Test.YtoihdghoopgdfaaV26
import Derived.Test.YtoihdghoopgdfaaV27
section
/-
  SpanBack answers true for every span and all bytes.
-/
namespace Go.Proofs.Ytoihdghoopgdfaa
open Go.RowKit Go.Proofs.YtoihdghoopgdfaaW.PrintWords Go.Proofs.YtoihdghoopgdfaaW.PrintLast Go.Proofs.YtoihdghoopgdfaaW.PrintMore
set_option linter.unusedVariables false
set_option linter.unusedSimpArgs false
def sb12_T : Bool × List (List Nat × List Nat) := (true, [([], []), ([0], [0]), ([1], [1]), ([2, 1], [1, 2]), ([1, 3], [1, 3]), ([4, 1], [4]), ([5], [5]), ([6, 5, 5], [5, 6]), ([5], [5]), ([7, 8, 7, 5], [5, 7, 8]), ([5, 9], [5, 9]), ([10, 9], [10]), ([11], [11]), ([12, 11], [11, 12]), ([11, 13], [11, 13]), ([14, 11, 0, 1, 2, 3, 4, 5, 6, 7, 8, 9, 10, 11, 12, 13, 14], [14])])
def sb12_B : List Nat := [0, 1, 3, 7, 15, 31, 63, 127, 63, 511, 1023, 2047, 4095, 8191, 16383, 32767]
theorem sb12_tab : rtab .any (opsOf Try.f6 12) = sb12_T := by kernel_rfl
theorem sb12_bits : waitsOk sb12_T.2 sb12_B = true := by kernel_rfl
theorem enc_any (a : Int) (l : List ByteArray) : ∃ bs ec, Ev (fun k => F.span_Encode.f k a l) (bs, ec) ∧ bs.length ≤ 3000 ∧ ((ec = 0 ∧ span_Decode.f bs = some (a, l, 0) ∧ span_Decode.f (bs ++ [0]) = some (0, [], 2)) ∨ (ec = 1 ∧ bs = [])) := by
  by_cases hok : spanOk a l = true
  · obtain ⟨n, rfl⟩ : ∃ n : Nat, a = (n : Int) := ⟨a.toNat, by have := ((spanOk_iff a l).1 hok).1; omega⟩
    have hs : Sp.sized l := Sp.sized_of ((spanOk_iff (n : Int) l).1 hok).2.2.2
    have hl := F.spanOk_short hok
    have hlen : (Cd.num n ++ Cd.cat l).length ≤ 3000 := by rw [List.length_append, Cd.cat_length l hs]; have := Cd.put_short n 9 n; unfold Cd.num; omega
    refine ⟨_, _, F.encode_ev n l hok, hlen, .inl ⟨rfl, F.decode_encoded n l hok, ?_⟩⟩
    have hbb : ∀ x ∈ Cd.num n ++ Cd.cat l ++ [0], 0 ≤ x ∧ x < 256 := by
      intro x hx
      rcases List.mem_append.1 hx with hx | hx
      · exact (List.mem_append.1 hx).elim (Cd.put_bytes _ _ x) (Cd.cat_bytes l x)
      · rw [List.mem_singleton.1 hx]; exact ⟨by decide, by decide⟩
    have hlb : (Cd.num n ++ Cd.cat l ++ [(0 : Int)]).length ≤ 140737488355328 := by rw [List.length_append]; simp only [List.length_cons, List.length_nil]; omega
    unfold span_Decode.f
    rw [if_pos ⟨hbb, hlb⟩, Cd.dec_more n l hok 0]
  · refine ⟨[], 1, Ev.congr (f := fun _ => some ([], 1)) (fun k => ?_) (Ev.now _), by simp, .inr ⟨rfl, rfl⟩⟩
    unfold F.span_Encode.f span_Check.f
    rw [if_neg hok, Option.bind_some, if_neg (by decide)]
theorem same8 (q : List Int) : F.sawyerref02_Same.f q q = some true := by
  unfold F.sawyerref02_Same.f
  simp
set_option maxRecDepth 100000 in
set_option maxHeartbeats 16000000 in
theorem back_walk (a : Int) (A : Option Addr) (c : Nat) (l : List ByteArray) (B : Option Addr) (cb : Nat) (b : List Int) (w : World) (hr : RdT w A l) (hc : l.length ≤ c) (hl : l.length ≤ 9223372036854775806) (hrb : Kd.C (Kd.int .u8) w B b.length b) (hcb : b.length ≤ cb) (hby : ∀ x ∈ b, 0 ≤ x ∧ x < 256) (hbl : b.length ≤ 140737488354000) :
    Calls Try.prog 6 #[.agg #[.int .i64 a, .slice A l.length c], .slice B b.length cb] w fun e w' => e = .returned (.bool true) ∧ Below w.heap.size w w' := by
  obtain ⟨bs, ec, hen, hbsl, hcases⟩ := enc_any a l
  obtain ⟨ke, hke⟩ := hen.rounds
  obtain ⟨x1, X, xe, hX⟩ : ∃ x1 X xe, spDecode b = (x1, X, xe) := ⟨_, _, _, rfl⟩
  have HXE : Hid (xe = 0 → ∃ k, F.span_Encode.f k x1 X = some (b, 0)) := Lib.hid (fun e => by
    subst e
    obtain ⟨m, rfl, hok, hcat⟩ := Cd.dec_inv b hby x1 X hX
    have := F.encode_ev m X hok
    rw [hcat] at this
    exact this.rounds)
  obtain ⟨ks, hks⟩ := (F.same16_ev a l hl).rounds
  have HXD := Lib.hid (show span_Decode.f b = some (x1, X, xe) by rw [← hX]; exact if_pos ⟨hby, by omega⟩)
  have HKE := Lib.hid hke
  have HKS := Lib.hid hks
  have HBL := Lib.hid hbsl
  have HCS := Lib.hid hcases
  have HR := Lib.hid hr
  have HLC := Lib.hid hc
  have HRB := Lib.hid hrb
  have HLB := Lib.hid hcb
  obtain ⟨n, hn⟩ : ∃ n, n = l.length := ⟨_, rfl⟩
  have HN := Lib.hid hn
  obtain ⟨nb, hnb⟩ : ∃ n, n = b.length := ⟨_, rfl⟩
  have HNB := Lib.hid hnb
  rw [← hn, ← hnb]
  clear hr hc hl hrb hcb hby hbl hen hbsl hcases hke hX hks hn hnb
  go_enter Try.func6, Try.ntmps6
  go_wp2_with fail
  refine (awake16_calls _).mono ?_
  rintro e w1 ⟨rfl, hb1⟩
  have HG1 := Lib.hid ((hb1.block w.heap.size (by simp)).trans (blk_new w _))
  have HB1 := Lib.hid (below_then ((Below.refl w.heap.size w).alloc (Nat.le_refl _) _) (by simp) hb1)
  obtain ⟨hcl1, hfz1⟩ := bcell hb1
  clear hb1
  go_wp2_with fail
  refine (mine_calls a A n c w1).mono ?_
  rintro e w2 ⟨rfl, hb2⟩
  have HG2 := Lib.hid ((hb2.block _ (blk_lt HG1.out)).trans HG1.out)
  have HB2 := Lib.hid (below_then HB1.out HB1.out.size hb2)
  clear hb2 hcl1 hfz1 HG1 HB1
  go_wp2_with fail
  have hEn := F.span_Encode.calls ke a A c l bs ec w2 (Kd.C_below HR.out HB2.out) HLC.out HKE.out
  rw [← HN.out] at hEn
  refine hEn.mono ?_
  rintro e w3 ⟨v3, rfl, ho3, hb3⟩
  obtain ⟨A3, c3, rfl⟩ := Kd.R_slice ho3
  have HC3 := Lib.hid (Kd.R_reads' ho3)
  have HG3 := Lib.hid ((hb3.block _ (blk_lt HG2.out)).trans HG2.out)
  have HB3 := Lib.hid (below_then HB2.out HB2.out.size hb3)
  clear hEn ho3 hb3 HG2 HB2
  go_wp2_with fail
  have hDe := span_Decode.calls B cb b x1 X xe w3 (Kd.C_below HRB.out HB3.out) HLB.out HXD.out
  rw [← HNB.out] at hDe
  refine hDe.mono ?_
  rintro e w4 ⟨v4, rfl, ho4, hb4⟩
  obtain ⟨A4, c4, rfl⟩ := Kd.R_slice ho4
  have HR4 := Lib.hid (Kd.R_reads' ho4)
  have HG4 := Lib.hid ((hb4.block _ (blk_lt HG3.out)).trans HG3.out)
  have HB4 := Lib.hid (below_then HB3.out HB3.out.size hb4)
  have HC4 := Lib.hid (Kd.C_below HC3.out.2.2 hb4)
  clear hDe ho4 hb4 HG3 HB3
  have hb5 : Below w4.heap.size w4 (w4.alloc (.cells #[.int .i64 x1, .slice A4 X.length c4] 26)) := (Below.refl _ _).alloc (Nat.le_refl _) _
  have HG5 := Lib.hid ((hb5.block _ (blk_lt HG4.out)).trans HG4.out)
  have HB5 := Lib.hid (below_then HB4.out HB4.out.size hb5)
  have HC5 := Lib.hid (Kd.C_below HC4.out hb5)
  have HR5 := Lib.hid (Kd.C_below HR4.out.2.2 hb5)
  have HL5 := Lib.hid HR4.out.2.1
  clear hb5 HG4 HB4 HC4 HR4
  by_cases hx : xe = 0
  · obtain ⟨kf, hkf⟩ := HXE.out hx
    have HKF := Lib.hid hkf
    have t1 : (xe == 0) = true := by simp [hx]
    clear hkf hx
    go_wp2_with fail
    refine (F.span_Encode.calls kf x1 A4 c4 X b 0 _ HR5.out HL5.out HKF.out).mono ?_
    rintro e w8 ⟨v8, rfl, ho8, hb8⟩
    obtain ⟨A8, c8, rfl⟩ := Kd.R_slice ho8
    have HR8 := Lib.hid (Kd.R_reads' ho8)
    have HG8 := Lib.hid ((hb8.block _ (blk_lt HG5.out)).trans HG5.out)
    have HB8 := Lib.hid (below_then HB5.out HB5.out.size hb8)
    have HC8 := Lib.hid (Kd.C_below HC5.out hb8)
    clear ho8 hb8 HG5 HB5 HC5
    go_wp2_with fail
    have hSm := F.sawyerref02_Same.calls A8 c8 b B cb b true w8 HR8.out.2.2 HR8.out.2.1 (Kd.C_below HRB.out HB8.out) HLB.out (same8 b)
    rw [← HNB.out] at hSm
    rw [← HNB.out]
    refine hSm.mono ?_
    rintro e w9 ⟨rfl, hd9⟩
    have hb9 : Below w8.heap.size w8 w9 := by obtain ⟨nd, rfl⟩ := hd9; apply pw_below_drewN; exact Below.refl _ _
    have HG9 := Lib.hid ((hb9.block _ (blk_lt HG8.out)).trans HG8.out)
    have HB9 := Lib.hid (below_then HB8.out HB8.out.size hb9)
    have HC9 := Lib.hid (Kd.C_below HC8.out hb9)
    clear hd9 hb9 hSm HG8 HB8 HC8
    rcases HCS.out with ⟨rfl, hd1, hd2⟩ | ⟨rfl, rfl⟩
    · have HD2 := Lib.hid hd1
      have HD3 := Lib.hid hd2
      clear hd1 hd2
      go_wp2_with fail
      refine (span_Decode.calls A3 c3 bs a l 0 w9 HC9.out HC3.out.2.1 HD2.out).mono ?_
      rintro e w6 ⟨v6, rfl, ho6, hb6⟩
      obtain ⟨A6, c6, rfl⟩ := Kd.R_slice ho6
      have HR6 := Lib.hid (Kd.R_reads' ho6)
      have HG6 := Lib.hid ((hb6.block _ (blk_lt HG9.out)).trans HG9.out)
      have HB6 := Lib.hid (below_then HB9.out HB9.out.size hb6)
      have HC6 := Lib.hid (Kd.C_below HC9.out hb6)
      have hb7 : Below w6.heap.size w6 (w6.alloc (.cells #[.int .i64 a, .slice A6 l.length c6] 26)) := (Below.refl _ _).alloc (Nat.le_refl _) _
      have HG7 := Lib.hid (blk_new w6 (.cells #[.int .i64 a, .slice A6 l.length c6] 26))
      have HB7 := Lib.hid (below_then HB6.out HB6.out.size hb7)
      have HG70 := Lib.hid ((hb7.block _ (blk_lt HG6.out)).trans HG6.out)
      have HC7 := Lib.hid (Kd.C_below HC6.out hb7)
      have HR7 := Lib.hid (Kd.C_below HR6.out.2.2 hb7)
      have HL7 := Lib.hid HR6.out.2.1
      have hw7 := HB7.out.size
      clear ho6 hb6 hb7 HB6 HG6 HC6 HR6
      obtain ⟨W7, hW7⟩ : ∃ X, X = w6.alloc (.cells #[.int .i64 a, .slice A6 l.length c6] 26) := ⟨_, rfl⟩
      go_wp2_with (first | (rw [← hW7]; refine lit_none (w0 := W7) (N := 56) W7.heap.size rfl rfl rfl (Below.refl _ _) (Nat.le_refl _) ?_; intro va wa hoa hba _; have HOa := Lib.hid hoa; have HBa := Lib.hid hba; rw [← hW7] at HG7 HB7 HG70 HC7 HR7; clear hoa hba hW7) | (at_builtin; refine app_row (w0 := W7) W7.heap.size rfl (.tmp 56) (.tmp 57) rfl va [] bs A3 bs.length c3 rfl rfl HOa.out (Kd.C_below HC7.out HBa.out) HBa.out HBa.out.size (by have := HBL.out; simp; omega) ?_; intro vb wb hob hbb _ _; rw [List.nil_append] at hob; have HOb := Lib.hid hob; have HBb := Lib.hid hbb; clear hob hbb) | (at_builtin; refine app_one (w0 := W7) W7.heap.size rfl (.tmp 58) (.tmp 59) rfl vb bs 0 rfl rfl HOb.out HBb.out HBb.out.size (by have := HBL.out; omega) ?_; intro vc wc hoc hbc _ _; obtain ⟨Ac, cc, rfl⟩ := Kd.R_slice hoc; have HRc := Lib.hid (Kd.R_reads' hoc); have HBc := Lib.hid hbc; clear hoc hbc) | fail)
      have hlc : (bs ++ [(0 : Int)]).length = bs.length + 1 := by simp
      have hD3 := span_Decode.calls Ac cc (bs ++ [0]) 0 [] 2 wc HRc.out.2.2 HRc.out.2.1 HD3.out
      rw [hlc] at hD3
      refine hD3.mono ?_
      rintro e w10 ⟨v10, rfl, ho10, hb10⟩
      obtain ⟨A10, c10, rfl⟩ := Kd.R_slice ho10
      have hb11 : Below w10.heap.size w10 (w10.alloc (.cells #[.int .i64 0, .slice A10 ([] : List ByteArray).length c10] 26)) := (Below.refl _ _).alloc (Nat.le_refl _) _
      have hb12 := below_then HBc.out HBc.out.size (below_then hb10 hb10.size hb11)
      have HG12 := Lib.hid ((hb12.block _ (blk_lt HG7.out)).trans HG7.out)
      have HG0 := Lib.hid ((hb12.block _ (blk_lt HG70.out)).trans HG70.out)
      have HB12 := Lib.hid (below_then HB7.out HB7.out.size hb12)
      have HR12 := Lib.hid (Kd.C_below HR7.out hb12)
      clear hD3 ho10 hb10 hb11 hb12 HOb HBb HBc HRc HOa HBa HC7 HR7 HG7 HG70 HB7 hlc HD2 HD3
      go_wp2_with fail
      generalize w10.alloc (.cells #[.int .i64 0, .slice A10 ([] : List ByteArray).length c10] 26) = W12 at *
      generalize w6.heap.size = g12 at *
      have c0_ : W12.cell? ⟨g12, 0, none⟩ = some (.int .i64 a) := by rw [blk_cell HG12.out]; rfl
      have c1_ : W12.cell? ⟨g12, 1, none⟩ = some (.slice A6 l.length c6) := by rw [blk_cell HG12.out]; rfl
      have c2_ : W12.cell? ⟨w.heap.size, 0, none⟩ = some (.int .i64 a) := by rw [blk_cell HG0.out]; rfl
      have c3_ : W12.cell? ⟨w.heap.size, 1, none⟩ = some (.slice A n c) := by rw [blk_cell HG0.out]; rfl
      refine start_ (n := 16) (S := fun w' => w'.cell? ⟨g12, 0, none⟩ = some (.int .i64 a) ∧ w'.cell? ⟨g12, 1, none⟩ = some (.slice A6 l.length c6) ∧ w'.cell? ⟨w.heap.size, 0, none⟩ = some (.int .i64 a) ∧ w'.cell? ⟨w.heap.size, 1, none⟩ = some (.slice A n c)) (ds := []) #[false, false, false, false, false, false, false, false, false, false, false, false, false, false, false, false] (by kernel_rfl) rfl rfl ⟨by rw [World.cell?_drew]; exact c0_, by rw [World.cell?_drew]; exact c1_, by rw [World.cell?_drew]; exact c2_, by rw [World.cell?_drew]; exact c3_⟩ (fun hHeld => ?_); refine with_tabW sb12_tab sb12_bits (fun HT_ HW_ => ?_)
      have hdv := below_drew1 (Below.refl W12.heap.size W12)
      have HDV := Lib.hid hdv
      clear hdv c0_ c1_ c2_ c3_
      have HBV := Lib.hid (below_then HB12.out HB12.out.size HDV.out)
      have HRV := Lib.hid (Kd.C_below HR12.out HDV.out)
      generalize W12.drew = V at *
      have HS := Lib.hid hHeld
      refine pure_ (i := 0) (N := some 64) (v := ?_) (a' := ?_) #[true, false, false, false, false, false, false, false, false, false, false, false, false, false, false, false] rfl rfl (any_of HT_.out (by kernel_rfl)) (fun _ _ _ h => h) (Or.inl ⟨by rfl, ?_⟩) ?_ ?_
      rotate_left
      · intro w'
        go_simp
        with_reducible rfl
      rotate_left
      · simp only [Act.put, List.setIfInBounds_toArray, List.set_cons_zero, List.set_cons_succ, i64_w, i32_w]
        rfl
      refine pure_ (i := 1) (N := some 65) (v := ?_) (a' := ?_) #[true, true, false, false, false, false, false, false, false, false, false, false, false, false, false, false] rfl rfl (any_of HT_.out (by kernel_rfl)) (fun _ _ _ h => h) (Or.inl ⟨by rfl, ?_⟩) ?_ ?_
      rotate_left
      · intro w'
        go_simp
        with_reducible rfl
      rotate_left
      · simp only [Act.put, List.setIfInBounds_toArray, List.set_cons_zero, List.set_cons_succ, i64_w, i32_w]
        rfl
      refine pure_ (i := 2) (N := some 66) (v := ?_) (a' := ?_) #[true, true, true, false, false, false, false, false, false, false, false, false, false, false, false, false] rfl rfl (any_of HT_.out (by kernel_rfl)) (fun _ _ _ h => h) (Or.inl ⟨by rfl, ?_⟩) ?_ ?_
      rotate_left
      · intro w'
        go_simp
        with_reducible rfl
      rotate_left
      · simp only [Act.put, List.setIfInBounds_toArray, List.set_cons_zero, List.set_cons_succ, i64_w, i32_w]
        rfl
      refine pure_ (i := 3) (N := some 67) (v := ?_) (a' := ?_) #[true, true, true, true, false, false, false, false, false, false, false, false, false, false, false, false] rfl rfl (any_of HT_.out (by kernel_rfl)) (fun _ _ _ h => h) (Or.inl ⟨by rfl, ?_⟩) ?_ ?_
      rotate_left
      · intro w'
        go_simp
        with_reducible rfl
      rotate_left
      · simp only [Act.put, List.setIfInBounds_toArray, List.set_cons_zero, List.set_cons_succ, i64_w, i32_w]
        rfl
      refine pure_ (i := 4) (N := some 68) (v := ?_) (a' := ?_) #[true, true, true, true, true, false, false, false, false, false, false, false, false, false, false, false] rfl rfl (any_of HT_.out (by kernel_rfl)) (fun _ _ _ h => h) (Or.inl ⟨by rfl, ?_⟩) ?_ ?_
      rotate_left
      · intro w'
        go_simp
        with_reducible rfl
      rotate_left
      · simp only [Act.put, List.setIfInBounds_toArray, List.set_cons_zero, List.set_cons_succ, i64_w, i32_w]
        rfl
      refine pure_ (i := 5) (N := some 69) (v := ?_) (a' := ?_) #[true, true, true, true, true, true, false, false, false, false, false, false, false, false, false, false] rfl rfl (any_of HT_.out (by kernel_rfl)) (fun _ _ _ h => h) (Or.inl ⟨by rfl, ?_⟩) ?_ ?_
      rotate_left
      · intro w'
        go_simp
        with_reducible rfl
      rotate_left
      · simp only [Act.put, List.setIfInBounds_toArray, List.set_cons_zero, List.set_cons_succ, i64_w, i32_w]
        rfl
      refine take_ (i := 6) (N := some 70) (v := ?_) (a' := ?_) #[true, true, true, true, true, true, true, false, false, false, false, false, false, false, false, false] rfl rfl (take_ofW HT_.out HW_.out (by kernel_rfl)) (fun _ _ _ h => h) (Or.inl ⟨by rfl, ?_⟩) hHeld ?_ ?_
      rotate_left
      · rintro w' ⟨s0, s1, s2, s3⟩
        go_simp
        with_reducible rfl
      rotate_left
      · simp only [Act.put, List.setIfInBounds_toArray, List.set_cons_zero, List.set_cons_succ, i64_w, i32_w]
        rfl
      refine take_ (i := 8) (N := some 72) (v := ?_) (a' := ?_) #[true, true, true, true, true, true, true, false, true, false, false, false, false, false, false, false] rfl rfl (take_ofW HT_.out HW_.out (by kernel_rfl)) (fun _ _ _ h => h) (Or.inl ⟨by rfl, ?_⟩) hHeld ?_ ?_
      rotate_left
      · rintro w' ⟨s0, s1, s2, s3⟩
        go_simp
        with_reducible rfl
      rotate_left
      · simp only [Act.put, List.setIfInBounds_toArray, List.set_cons_zero, List.set_cons_succ, i64_w, i32_w]
        rfl
      refine one_ (i := 7) (N := some 71) #[true, true, true, true, true, true, true, true, true, false, false, false, false, false, false, false] rfl rfl (one_of HT_.out (by kernel_rfl)) (by decide) (fun K hK => ?_)
      refine goes_ Try.func15 (by kernel_rfl) rfl #[.agg #[.int .i64 a, .slice A6 l.length c6]] (by rfl) rfl rfl (by simp only [List.map_toArray, List.map_cons, List.map_nil]; rfl) ?_
      refine (theirs_calls a A6 l.length c6 V).mono ?_
      rintro e Y7 ⟨rfl, hD⟩
      refine ⟨_, rfl, ?_⟩
      have q7 := below_then (Below.refl V.heap.size V) ((Below.refl V.heap.size V)).size hD
      refine hK.out _ _ ⟨pw_cell_below q7 HS.out.1, pw_cell_below q7 HS.out.2.1, pw_cell_below q7 HS.out.2.2.1, pw_cell_below q7 HS.out.2.2.2⟩ (fun hHeld => ?_)
      clear hD
      clear hK K
      refine one_ (i := 9) (N := some 73) #[true, true, true, true, true, true, true, true, true, true, false, false, false, false, false, false] rfl rfl (one_of HT_.out (by kernel_rfl)) (by decide) (fun K hK => ?_)
      refine goes_ Try.func14 (by kernel_rfl) rfl #[.agg #[.int .i64 a, .slice A6 l.length c6], .agg #[.int .i64 a, .slice A n c]] (by rfl) rfl rfl (by simp only [List.map_toArray, List.map_cons, List.map_nil]; rfl) ?_
      have hSS := F.sawyerref16_Same.calls ks a A6 c6 l a A c l true Y7 (Kd.C_below HRV.out q7) HL7.out (Kd.C_below HR.out (below_then HBV.out HBV.out.size q7)) HLC.out HKS.out
      rw [← HN.out] at hSS ⊢
      refine hSS.mono ?_
      rintro e Y9 ⟨rfl, hD⟩
      refine ⟨_, rfl, ?_⟩
      have q9 := below_then q7 (q7).size hD
      refine hK.out _ _ ⟨pw_cell_below q9 HS.out.1, pw_cell_below q9 HS.out.2.1, pw_cell_below q9 HS.out.2.2.1, pw_cell_below q9 HS.out.2.2.2⟩ (fun hHeld => ?_)
      clear hD
      clear hK K
      refine pure_ (i := 10) (N := some 74) (v := ?_) (a' := ?_) #[true, true, true, true, true, true, true, true, true, true, true, false, false, false, false, false] rfl rfl (any_of HT_.out (by kernel_rfl)) (fun _ _ _ h => h) (Or.inl ⟨by rfl, ?_⟩) ?_ ?_
      rotate_left
      · intro w'
        go_simp
        with_reducible rfl
      rotate_left
      · simp only [Act.put, List.setIfInBounds_toArray, List.set_cons_zero, List.set_cons_succ, i64_w, i32_w]
        rfl
      refine pure_ (i := 11) (N := some 75) (v := ?_) (a' := ?_) #[true, true, true, true, true, true, true, true, true, true, true, true, false, false, false, false] rfl rfl (any_of HT_.out (by kernel_rfl)) (fun _ _ _ h => h) (Or.inl ⟨by rfl, ?_⟩) ?_ ?_
      rotate_left
      · intro w'
        go_simp
        with_reducible rfl
      rotate_left
      · simp only [Act.put, List.setIfInBounds_toArray, List.set_cons_zero, List.set_cons_succ, i64_w, i32_w]
        rfl
      refine pure_ (i := 12) (N := some 76) (v := ?_) (a' := ?_) #[true, true, true, true, true, true, true, true, true, true, true, true, true, false, false, false] rfl rfl (any_of HT_.out (by kernel_rfl)) (fun _ _ _ h => h) (Or.inl ⟨by rfl, ?_⟩) ?_ ?_
      rotate_left
      · intro w'
        go_simp
        with_reducible rfl
      rotate_left
      · simp only [Act.put, List.setIfInBounds_toArray, List.set_cons_zero, List.set_cons_succ, i64_w, i32_w]
        rfl
      refine pure_ (i := 13) (N := some 77) (v := ?_) (a' := ?_) #[true, true, true, true, true, true, true, true, true, true, true, true, true, true, false, false] rfl rfl (any_of HT_.out (by kernel_rfl)) (fun _ _ _ h => h) (Or.inl ⟨by rfl, ?_⟩) ?_ ?_
      rotate_left
      · intro w'
        go_simp
        with_reducible rfl
      rotate_left
      · simp only [Act.put, List.setIfInBounds_toArray, List.set_cons_zero, List.set_cons_succ, i64_w, i32_w]
        rfl
      refine pure_ (i := 14) (N := some 78) (v := ?_) (a' := ?_) #[true, true, true, true, true, true, true, true, true, true, true, true, true, true, true, false] rfl rfl (any_of HT_.out (by kernel_rfl)) (fun _ _ _ h => h) (Or.inl ⟨by rfl, ?_⟩) ?_ ?_
      rotate_left
      · intro w'
        go_simp
        with_reducible rfl
      rotate_left
      · simp only [Act.put, List.setIfInBounds_toArray, List.set_cons_zero, List.set_cons_succ, i64_w, i32_w]
        rfl
      refine pure_ (i := 15) (N := some 4) (v := ?_) (a' := ?_) #[true, true, true, true, true, true, true, true, true, true, true, true, true, true, true, true] rfl rfl (any_of HT_.out (by kernel_rfl)) (fun _ _ _ h => h) (Or.inl ⟨by rfl, ?_⟩) ?_ ?_
      rotate_left
      · intro w'
        go_simp
        with_reducible rfl
      rotate_left
      · simp only [Act.put, List.setIfInBounds_toArray, List.set_cons_zero, List.set_cons_succ, i64_w, i32_w]
        rfl
      refine done_ (done_of HT_.out (by kernel_rfl)) ?_
      have hend := below_then HBV.out HBV.out.size q9
      go_wp2
      go_ret
      exact ⟨rfl, hend⟩
    · go_wp2
      go_ret
      exact ⟨rfl, HB9.out⟩
  · have t1 : (xe == 0) = false := by simp [hx]
    rcases HCS.out with ⟨rfl, hd1, hd2⟩ | ⟨rfl, rfl⟩
    · have HD2 := Lib.hid hd1
      have HD3 := Lib.hid hd2
      clear hd1 hd2
      go_wp2_with fail
      refine (span_Decode.calls A3 c3 bs a l 0 _ HC5.out HC3.out.2.1 HD2.out).mono ?_
      rintro e w6 ⟨v6, rfl, ho6, hb6⟩
      obtain ⟨A6, c6, rfl⟩ := Kd.R_slice ho6
      have HR6 := Lib.hid (Kd.R_reads' ho6)
      have HG6 := Lib.hid ((hb6.block _ (blk_lt HG5.out)).trans HG5.out)
      have HB6 := Lib.hid (below_then HB5.out HB5.out.size hb6)
      have HC6 := Lib.hid (Kd.C_below HC5.out hb6)
      have hb7 : Below w6.heap.size w6 (w6.alloc (.cells #[.int .i64 a, .slice A6 l.length c6] 26)) := (Below.refl _ _).alloc (Nat.le_refl _) _
      have HG7 := Lib.hid (blk_new w6 (.cells #[.int .i64 a, .slice A6 l.length c6] 26))
      have HB7 := Lib.hid (below_then HB6.out HB6.out.size hb7)
      have HG70 := Lib.hid ((hb7.block _ (blk_lt HG6.out)).trans HG6.out)
      have HC7 := Lib.hid (Kd.C_below HC6.out hb7)
      have HR7 := Lib.hid (Kd.C_below HR6.out.2.2 hb7)
      have HL7 := Lib.hid HR6.out.2.1
      have hw7 := HB7.out.size
      clear ho6 hb6 hb7 HB6 HG6 HC6 HR6
      obtain ⟨W7, hW7⟩ : ∃ X, X = w6.alloc (.cells #[.int .i64 a, .slice A6 l.length c6] 26) := ⟨_, rfl⟩
      go_wp2_with (first | (rw [← hW7]; refine lit_none (w0 := W7) (N := 56) W7.heap.size rfl rfl rfl (Below.refl _ _) (Nat.le_refl _) ?_; intro va wa hoa hba _; have HOa := Lib.hid hoa; have HBa := Lib.hid hba; rw [← hW7] at HG7 HB7 HG70 HC7 HR7; clear hoa hba hW7) | (at_builtin; refine app_row (w0 := W7) W7.heap.size rfl (.tmp 56) (.tmp 57) rfl va [] bs A3 bs.length c3 rfl rfl HOa.out (Kd.C_below HC7.out HBa.out) HBa.out HBa.out.size (by have := HBL.out; simp; omega) ?_; intro vb wb hob hbb _ _; rw [List.nil_append] at hob; have HOb := Lib.hid hob; have HBb := Lib.hid hbb; clear hob hbb) | (at_builtin; refine app_one (w0 := W7) W7.heap.size rfl (.tmp 58) (.tmp 59) rfl vb bs 0 rfl rfl HOb.out HBb.out HBb.out.size (by have := HBL.out; omega) ?_; intro vc wc hoc hbc _ _; obtain ⟨Ac, cc, rfl⟩ := Kd.R_slice hoc; have HRc := Lib.hid (Kd.R_reads' hoc); have HBc := Lib.hid hbc; clear hoc hbc) | fail)
      have hlc : (bs ++ [(0 : Int)]).length = bs.length + 1 := by simp
      have hD3 := span_Decode.calls Ac cc (bs ++ [0]) 0 [] 2 wc HRc.out.2.2 HRc.out.2.1 HD3.out
      rw [hlc] at hD3
      refine hD3.mono ?_
      rintro e w10 ⟨v10, rfl, ho10, hb10⟩
      obtain ⟨A10, c10, rfl⟩ := Kd.R_slice ho10
      have hb11 : Below w10.heap.size w10 (w10.alloc (.cells #[.int .i64 0, .slice A10 ([] : List ByteArray).length c10] 26)) := (Below.refl _ _).alloc (Nat.le_refl _) _
      have hb12 := below_then HBc.out HBc.out.size (below_then hb10 hb10.size hb11)
      have HG12 := Lib.hid ((hb12.block _ (blk_lt HG7.out)).trans HG7.out)
      have HG0 := Lib.hid ((hb12.block _ (blk_lt HG70.out)).trans HG70.out)
      have HB12 := Lib.hid (below_then HB7.out HB7.out.size hb12)
      have HR12 := Lib.hid (Kd.C_below HR7.out hb12)
      clear hD3 ho10 hb10 hb11 hb12 HOb HBb HBc HRc HOa HBa HC7 HR7 HG7 HG70 HB7 hlc HD2 HD3
      go_wp2_with fail
      generalize w10.alloc (.cells #[.int .i64 0, .slice A10 ([] : List ByteArray).length c10] 26) = W12 at *
      generalize w6.heap.size = g12 at *
      have c0_ : W12.cell? ⟨g12, 0, none⟩ = some (.int .i64 a) := by rw [blk_cell HG12.out]; rfl
      have c1_ : W12.cell? ⟨g12, 1, none⟩ = some (.slice A6 l.length c6) := by rw [blk_cell HG12.out]; rfl
      have c2_ : W12.cell? ⟨w.heap.size, 0, none⟩ = some (.int .i64 a) := by rw [blk_cell HG0.out]; rfl
      have c3_ : W12.cell? ⟨w.heap.size, 1, none⟩ = some (.slice A n c) := by rw [blk_cell HG0.out]; rfl
      refine start_ (n := 16) (S := fun w' => w'.cell? ⟨g12, 0, none⟩ = some (.int .i64 a) ∧ w'.cell? ⟨g12, 1, none⟩ = some (.slice A6 l.length c6) ∧ w'.cell? ⟨w.heap.size, 0, none⟩ = some (.int .i64 a) ∧ w'.cell? ⟨w.heap.size, 1, none⟩ = some (.slice A n c)) (ds := []) #[false, false, false, false, false, false, false, false, false, false, false, false, false, false, false, false] (by kernel_rfl) rfl rfl ⟨by rw [World.cell?_drew]; exact c0_, by rw [World.cell?_drew]; exact c1_, by rw [World.cell?_drew]; exact c2_, by rw [World.cell?_drew]; exact c3_⟩ (fun hHeld => ?_); refine with_tabW sb12_tab sb12_bits (fun HT_ HW_ => ?_)
      have hdv := below_drew1 (Below.refl W12.heap.size W12)
      have HDV := Lib.hid hdv
      clear hdv c0_ c1_ c2_ c3_
      have HBV := Lib.hid (below_then HB12.out HB12.out.size HDV.out)
      have HRV := Lib.hid (Kd.C_below HR12.out HDV.out)
      generalize W12.drew = V at *
      have HS := Lib.hid hHeld
      refine pure_ (i := 0) (N := some 64) (v := ?_) (a' := ?_) #[true, false, false, false, false, false, false, false, false, false, false, false, false, false, false, false] rfl rfl (any_of HT_.out (by kernel_rfl)) (fun _ _ _ h => h) (Or.inl ⟨by rfl, ?_⟩) ?_ ?_
      rotate_left
      · intro w'
        go_simp
        with_reducible rfl
      rotate_left
      · simp only [Act.put, List.setIfInBounds_toArray, List.set_cons_zero, List.set_cons_succ, i64_w, i32_w]
        rfl
      refine pure_ (i := 1) (N := some 65) (v := ?_) (a' := ?_) #[true, true, false, false, false, false, false, false, false, false, false, false, false, false, false, false] rfl rfl (any_of HT_.out (by kernel_rfl)) (fun _ _ _ h => h) (Or.inl ⟨by rfl, ?_⟩) ?_ ?_
      rotate_left
      · intro w'
        go_simp
        with_reducible rfl
      rotate_left
      · simp only [Act.put, List.setIfInBounds_toArray, List.set_cons_zero, List.set_cons_succ, i64_w, i32_w]
        rfl
      refine pure_ (i := 2) (N := some 66) (v := ?_) (a' := ?_) #[true, true, true, false, false, false, false, false, false, false, false, false, false, false, false, false] rfl rfl (any_of HT_.out (by kernel_rfl)) (fun _ _ _ h => h) (Or.inl ⟨by rfl, ?_⟩) ?_ ?_
      rotate_left
      · intro w'
        go_simp
        with_reducible rfl
      rotate_left
      · simp only [Act.put, List.setIfInBounds_toArray, List.set_cons_zero, List.set_cons_succ, i64_w, i32_w]
        rfl
      refine pure_ (i := 3) (N := some 67) (v := ?_) (a' := ?_) #[true, true, true, true, false, false, false, false, false, false, false, false, false, false, false, false] rfl rfl (any_of HT_.out (by kernel_rfl)) (fun _ _ _ h => h) (Or.inl ⟨by rfl, ?_⟩) ?_ ?_
      rotate_left
      · intro w'
        go_simp
        with_reducible rfl
      rotate_left
      · simp only [Act.put, List.setIfInBounds_toArray, List.set_cons_zero, List.set_cons_succ, i64_w, i32_w]
        rfl
      refine pure_ (i := 4) (N := some 68) (v := ?_) (a' := ?_) #[true, true, true, true, true, false, false, false, false, false, false, false, false, false, false, false] rfl rfl (any_of HT_.out (by kernel_rfl)) (fun _ _ _ h => h) (Or.inl ⟨by rfl, ?_⟩) ?_ ?_
      rotate_left
      · intro w'
        go_simp
        with_reducible rfl
      rotate_left
      · simp only [Act.put, List.setIfInBounds_toArray, List.set_cons_zero, List.set_cons_succ, i64_w, i32_w]
        rfl
      refine pure_ (i := 5) (N := some 69) (v := ?_) (a' := ?_) #[true, true, true, true, true, true, false, false, false, false, false, false, false, false, false, false] rfl rfl (any_of HT_.out (by kernel_rfl)) (fun _ _ _ h => h) (Or.inl ⟨by rfl, ?_⟩) ?_ ?_
      rotate_left
      · intro w'
        go_simp
        with_reducible rfl
      rotate_left
      · simp only [Act.put, List.setIfInBounds_toArray, List.set_cons_zero, List.set_cons_succ, i64_w, i32_w]
        rfl
      refine take_ (i := 6) (N := some 70) (v := ?_) (a' := ?_) #[true, true, true, true, true, true, true, false, false, false, false, false, false, false, false, false] rfl rfl (take_ofW HT_.out HW_.out (by kernel_rfl)) (fun _ _ _ h => h) (Or.inl ⟨by rfl, ?_⟩) hHeld ?_ ?_
      rotate_left
      · rintro w' ⟨s0, s1, s2, s3⟩
        go_simp
        with_reducible rfl
      rotate_left
      · simp only [Act.put, List.setIfInBounds_toArray, List.set_cons_zero, List.set_cons_succ, i64_w, i32_w]
        rfl
      refine take_ (i := 8) (N := some 72) (v := ?_) (a' := ?_) #[true, true, true, true, true, true, true, false, true, false, false, false, false, false, false, false] rfl rfl (take_ofW HT_.out HW_.out (by kernel_rfl)) (fun _ _ _ h => h) (Or.inl ⟨by rfl, ?_⟩) hHeld ?_ ?_
      rotate_left
      · rintro w' ⟨s0, s1, s2, s3⟩
        go_simp
        with_reducible rfl
      rotate_left
      · simp only [Act.put, List.setIfInBounds_toArray, List.set_cons_zero, List.set_cons_succ, i64_w, i32_w]
        rfl
      refine one_ (i := 7) (N := some 71) #[true, true, true, true, true, true, true, true, true, false, false, false, false, false, false, false] rfl rfl (one_of HT_.out (by kernel_rfl)) (by decide) (fun K hK => ?_)
      refine goes_ Try.func15 (by kernel_rfl) rfl #[.agg #[.int .i64 a, .slice A6 l.length c6]] (by rfl) rfl rfl (by simp only [List.map_toArray, List.map_cons, List.map_nil]; rfl) ?_
      refine (theirs_calls a A6 l.length c6 V).mono ?_
      rintro e Y7 ⟨rfl, hD⟩
      refine ⟨_, rfl, ?_⟩
      have q7 := below_then (Below.refl V.heap.size V) ((Below.refl V.heap.size V)).size hD
      refine hK.out _ _ ⟨pw_cell_below q7 HS.out.1, pw_cell_below q7 HS.out.2.1, pw_cell_below q7 HS.out.2.2.1, pw_cell_below q7 HS.out.2.2.2⟩ (fun hHeld => ?_)
      clear hD
      clear hK K
      refine one_ (i := 9) (N := some 73) #[true, true, true, true, true, true, true, true, true, true, false, false, false, false, false, false] rfl rfl (one_of HT_.out (by kernel_rfl)) (by decide) (fun K hK => ?_)
      refine goes_ Try.func14 (by kernel_rfl) rfl #[.agg #[.int .i64 a, .slice A6 l.length c6], .agg #[.int .i64 a, .slice A n c]] (by rfl) rfl rfl (by simp only [List.map_toArray, List.map_cons, List.map_nil]; rfl) ?_
      have hSS := F.sawyerref16_Same.calls ks a A6 c6 l a A c l true Y7 (Kd.C_below HRV.out q7) HL7.out (Kd.C_below HR.out (below_then HBV.out HBV.out.size q7)) HLC.out HKS.out
      rw [← HN.out] at hSS ⊢
      refine hSS.mono ?_
      rintro e Y9 ⟨rfl, hD⟩
      refine ⟨_, rfl, ?_⟩
      have q9 := below_then q7 (q7).size hD
      refine hK.out _ _ ⟨pw_cell_below q9 HS.out.1, pw_cell_below q9 HS.out.2.1, pw_cell_below q9 HS.out.2.2.1, pw_cell_below q9 HS.out.2.2.2⟩ (fun hHeld => ?_)
      clear hD
      clear hK K
      refine pure_ (i := 10) (N := some 74) (v := ?_) (a' := ?_) #[true, true, true, true, true, true, true, true, true, true, true, false, false, false, false, false] rfl rfl (any_of HT_.out (by kernel_rfl)) (fun _ _ _ h => h) (Or.inl ⟨by rfl, ?_⟩) ?_ ?_
      rotate_left
      · intro w'
        go_simp
        with_reducible rfl
      rotate_left
      · simp only [Act.put, List.setIfInBounds_toArray, List.set_cons_zero, List.set_cons_succ, i64_w, i32_w]
        rfl
      refine pure_ (i := 11) (N := some 75) (v := ?_) (a' := ?_) #[true, true, true, true, true, true, true, true, true, true, true, true, false, false, false, false] rfl rfl (any_of HT_.out (by kernel_rfl)) (fun _ _ _ h => h) (Or.inl ⟨by rfl, ?_⟩) ?_ ?_
      rotate_left
      · intro w'
        go_simp
        with_reducible rfl
      rotate_left
      · simp only [Act.put, List.setIfInBounds_toArray, List.set_cons_zero, List.set_cons_succ, i64_w, i32_w]
        rfl
      refine pure_ (i := 12) (N := some 76) (v := ?_) (a' := ?_) #[true, true, true, true, true, true, true, true, true, true, true, true, true, false, false, false] rfl rfl (any_of HT_.out (by kernel_rfl)) (fun _ _ _ h => h) (Or.inl ⟨by rfl, ?_⟩) ?_ ?_
      rotate_left
      · intro w'
        go_simp
        with_reducible rfl
      rotate_left
      · simp only [Act.put, List.setIfInBounds_toArray, List.set_cons_zero, List.set_cons_succ, i64_w, i32_w]
        rfl
      refine pure_ (i := 13) (N := some 77) (v := ?_) (a' := ?_) #[true, true, true, true, true, true, true, true, true, true, true, true, true, true, false, false] rfl rfl (any_of HT_.out (by kernel_rfl)) (fun _ _ _ h => h) (Or.inl ⟨by rfl, ?_⟩) ?_ ?_
      rotate_left
      · intro w'
        go_simp
        with_reducible rfl
      rotate_left
      · simp only [Act.put, List.setIfInBounds_toArray, List.set_cons_zero, List.set_cons_succ, i64_w, i32_w]
        rfl
      refine pure_ (i := 14) (N := some 78) (v := ?_) (a' := ?_) #[true, true, true, true, true, true, true, true, true, true, true, true, true, true, true, false] rfl rfl (any_of HT_.out (by kernel_rfl)) (fun _ _ _ h => h) (Or.inl ⟨by rfl, ?_⟩) ?_ ?_
      rotate_left
      · intro w'
        go_simp
        with_reducible rfl
      rotate_left
      · simp only [Act.put, List.setIfInBounds_toArray, List.set_cons_zero, List.set_cons_succ, i64_w, i32_w]
        rfl
      refine pure_ (i := 15) (N := some 4) (v := ?_) (a' := ?_) #[true, true, true, true, true, true, true, true, true, true, true, true, true, true, true, true] rfl rfl (any_of HT_.out (by kernel_rfl)) (fun _ _ _ h => h) (Or.inl ⟨by rfl, ?_⟩) ?_ ?_
      rotate_left
      · intro w'
        go_simp
        with_reducible rfl
      rotate_left
      · simp only [Act.put, List.setIfInBounds_toArray, List.set_cons_zero, List.set_cons_succ, i64_w, i32_w]
        rfl
      refine done_ (done_of HT_.out (by kernel_rfl)) ?_
      have hend := below_then HBV.out HBV.out.size q9
      go_wp2
      go_ret
      exact ⟨rfl, hend⟩
    · go_wp2
      go_ret
      exact ⟨rfl, HB5.out⟩
end Go.Proofs.Ytoihdghoopgdfaa
end
