-- JOINED BY A PROGRAM OF THIS PLACE (wip/tools/pack.py) out of: SpRPush SpPushes F34
import Derived.Test.YtoihdghoopgdfaaX25
import Derived.Test.YtoihdghoopgdfaaX221
import Derived.Test.YtoihdghoopgdfaaX222
import Derived.Test.YtoihdghoopgdfaaX224
section
/-
  sawyerref16.Push: its walk.
-/
namespace Go.Proofs.Ytoihdghoopgdfaa
open Go.RowKit Go.Proofs.YtoihdghoopgdfaaW.PrintWords Go.Proofs.YtoihdghoopgdfaaW.PrintLast Go.Proofs.YtoihdghoopgdfaaW.PrintMore
set_option linter.unusedVariables false
set_option linter.unusedSimpArgs false
theorem infoRs : (Try.prog.info? 24).map (·.size) = some 2 := by kernel_rfl
theorem results_rspan {fn : Func} {tmps : Array Value} {w : World} (p q : Tmp) (hf : fn.results = #[.cell p 24, .tmp q]) (g : Nat) (x y : Value) (hp : tmps.getD p undef = .pointer (some ⟨g, 0, none⟩)) (hg : w.heap[g]? = some (.cells #[x, y] 24 (0, 0))) :
    (results fn tmps).run Try.prog w = .ok (.tuple #[.agg #[x, y], tmps.getD q undef]) w :=
  results_list (rs := [.cell p 24, .tmp q]) hf (by simp) (.cell g 24 #[x, y] (0, 0) _ hp hg Try.underlying24 rfl infoRs (.tmp .nil))
def rpush_T : Bool × List (List Nat × List Nat) := (true, [([], []), ([], []), ([], []), ([2], [2]), ([1, 3], [1, 3]), ([0, 4], [0, 4]), ([], []), ([], []), ([7], [7]), ([6, 8], [6, 8]), ([9], [9]), ([], []), ([], []), ([12], [12]), ([11, 13], [11, 13]), ([14], [14]), ([10, 15, 5], [10, 15]), ([16], [16]), ([5, 17, 16], [5, 17]), ([18, 18, 0, 1, 2, 3, 4, 5, 6, 7, 8, 9, 10, 11, 12, 13, 14, 15, 16, 17, 18], [1, 6, 11, 18])])
def rpush_B : List Nat := [0, 0, 0, 4, 14, 31, 0, 0, 128, 448, 960, 0, 0, 4096, 14336, 30720, 65504, 131040, 262143, 524287]
theorem rpush_tab : rtab .any (opsOf Try.f11 8) = rpush_T := by kernel_rfl
theorem rpush_bits : waitsOk rpush_T.2 rpush_B = true := by kernel_rfl
-- WALK
set_option maxHeartbeats 16000000 in
set_option maxRecDepth 100000 in
theorem rpush_ok (n0 : Nat) (A : Option Addr) (c : Nat) (l : List ByteArray) (leaf : ByteArray) (r : List ByteArray) (kk : Nat) (w : World) (hr : RdT w A l) (hc : l.length ≤ c) (hok : spanOk (n0 : Int) l = true) (hm : (n0 : Int) ≠ 1099511627776) (h32 : leaf.size = 32) (hres : r = Sp.carry 64 n0 (l ++ [leaf])) (hkk : F.sawyerref16_Check.f kk (n0 : Int) l = some 0) :
    Calls Try.prog 11 #[.agg #[.int .i64 (n0 : Int), .slice A l.length c], .string leaf] w fun e w' => ∃ v1_ : Value, e = .returned (.tuple #[.agg #[.int .i64 ((n0 : Int) + 1), v1_], .int .i64 0]) ∧ Kd.R Kd.string 9 w' w.heap.size (fun _ => True) v1_ r ∧ Below w.heap.size w w' := by
  have hat0 := Sp.At.start hok h32
  rw [Int.toNat_natCast, ← hres] at hat0
  have hlen : l.length ≤ 64 := by have := hat0.bound; simp at this; omega
  have hamax := ((spanOk_iff (n0 : Int) l).1 hok).2.1
  have HAT0 : Hid (Sp.At r n0 (l ++ [leaf])) := Lib.hid hat0
  have HR := Lib.hid hr
  have hck := Lib.hid hkk
  have h32' : ((leaf.size : Int) != 32) = false := by simp; omega
  have e2 : ((n0 : Int) == 1099511627776) = false := by simpa using hm
  have HAP := Lib.hid (show 0 ≤ (n0 : Int) ∧ (n0 : Int) ≤ 1099511627776 from ⟨((spanOk_iff (n0 : Int) l).1 hok).1, hamax⟩)
  clear hat0 hok hm h32 hres hr hamax hkk
  go_enter Try.func11, Try.ntmps11
  go_wp2_with fail
  refine (F.sawyerref16_Check.calls kk (n0 : Int) A c l 0 _ (Kd.C_alloc (Kd.C_alloc HR.out _) _) hc hck.out).mono ?_
  rintro e w1 ⟨rfl, hb⟩
  obtain ⟨hcl, hfz⟩ := bcell hb
  have HB1 := Lib.hid (two_blocks hb)
  clear hb
  go_wp2_with (first | (refine litT_none (w0 := w) (N := 23) w.heap.size rfl rfl rfl HB1.out.2.2.1 HB1.out.2.2.1.size ?_; intro v2 w2 ho2 hb2 hg2; have HO2 := Lib.hid ho2; have HB2 := Lib.hid hb2; have HG2 : Hid (w2.heap[w.heap.size]? = _) := Lib.hid (blk_grown HB1.out.1 hg2 (by simp)); have HG3 : Hid (w2.heap[w.heap.size + 1]? = _) := Lib.hid (blk_grown HB1.out.2.1 hg2 (by simp)); have hcc : w2.cell? ⟨w.heap.size, 1, none⟩ = some (.slice A l.length c) := (by rw [blk_cell HG2.out]; rfl); have hw2 := hb2.size; clear ho2 hb2 hg2 hcl hfz) | (at_builtin; refine appT_row (w0 := w) w.heap.size rfl (.tmp 23) (.tmp 25) rfl v2 [] l A _ c rfl rfl HO2.out (Kd.C_below HR.out HB2.out) HB2.out hw2 (by simp; omega) ?_; intro v3 w3 ho3 hb3 hg3 _; rw [List.nil_append] at ho3; have HO3 := Lib.hid ho3; have HB3 := Lib.hid hb3; have HG4 : Hid (w3.heap[w.heap.size]? = _) := Lib.hid (blk_grown HG2.out hg3 (Kd.R_ne HO2.out HG2.out (by decide))); have HG5 : Hid (w3.heap[w.heap.size + 1]? = _) := Lib.hid (blk_grown HG3.out hg3 (Kd.R_ne HO2.out HG3.out (by decide))); have hw3 := hb3.size; clear ho3 hb3 hg3 hcc) | (at_builtin; refine appT_one (w0 := w) w.heap.size rfl (.tmp 26) (.tmp 28) rfl v3 l leaf rfl rfl HO3.out HB3.out hw3 (by omega) ?_; intro v5 wx ho5 hb5 hg5 _; obtain ⟨q, hq⟩ : ∃ q, q = l ++ [leaf] := ⟨_, rfl⟩; rw [← hq] at ho5; obtain ⟨Al, cl, rfl⟩ := Kd.R_slice ho5; have hat : Sp.At r n0 q := (by rw [hq]; exact HAT0.out); have HAT := Lib.hid hat; have HO := Lib.hid ho5; have HB := Lib.hid hb5; have HG0 : Hid (wx.heap[w.heap.size]? = _) := Lib.hid (blk_grown HG4.out hg5 (Kd.R_ne HO3.out HG4.out (by decide))); have HG1 : Hid (wx.heap[w.heap.size + 1]? = _) := Lib.hid (blk_grown HG5.out hg5 (Kd.R_ne HO3.out HG5.out (by decide))); have hc0 : wx.cell? ⟨w.heap.size, 0, none⟩ = some (.int .i64 (n0 : Int)) := (by rw [blk_cell HG0.out]; rfl); clear hq hat ho5 hb5 hg5) | fail)
  clear hc0
  go_loopw [6, 7] (fun vl vn wr => ∃ (n : Nat) (q : List ByteArray) (Al : Option Addr) (cl : Nat), vl = .slice Al q.length cl ∧ vn = .int .i64 n ∧ Sp.At r n q ∧ OwnT wr w.heap.size (.slice Al q.length cl) q ∧ wr.heap[w.heap.size]? = some (.cells #[.int .i64 (n0 : Int), .slice A l.length c] 24 (0, 0)) ∧ wr.heap[w.heap.size + 1]? = some (.cells #[.int .i64 0, .slice none 0 0] 24 (0, 0)) ∧ Below w.heap.size w wr) (fun _ vn _ => (intOf vn).toNat)
  case atStart => exact ⟨n0, q, Al, cl, rfl, rfl, HAT.out, HO.out, HG0.out, HG1.out, HB.out⟩
  case round =>
    clear HAT HO HG0 HG1 HB HAT0 HR HB1 HO2 HO3 HB2 HB3 HG2 HG3 HG4 HG5
    obtain ⟨n, q, Al, cl, rfl, rfl, hat, ho, hg0, hg1, hb⟩ := hrel
    obtain ⟨wx, rfl⟩ : ∃ wx, wx = wr := ⟨_, rfl⟩
    obtain ⟨hql, hnl⟩ := hat.bound
    have HAT := Lib.hid hat
    have HO := Lib.hid ho
    have HG0 := Lib.hid hg0
    have HG1 := Lib.hid hg1
    have HB := Lib.hid hb
    have hc0 : wx.cell? ⟨w.heap.size, 0, none⟩ = some (.int .i64 (n0 : Int)) := by rw [blk_cell hg0]; rfl
    have hw := hb.size
    clear hat ho hg0 hg1 hb
    by_cases hodd : n % 2 = 1
    · have hrm : ((n : Int) % 2 == 1) = true := by simp; omega
      have hrm2 : (Int.tmod (n : Int) 2 == 1) = true := by rw [show Int.tmod (n : Int) 2 = ((n % 2 : Nat) : Int) from rfl, hodd]; rfl
      obtain ⟨h2, hx, hy⟩ := HAT.out.two hodd
      have HNX := Lib.hid (HAT.out.next hodd)
      obtain ⟨g, cap, e, hgb, hgl, _⟩ := Kd.R_form HO.out (by omega)
      injection e with e1 e2 e3
      subst e1
      clear e2 e3
      obtain ⟨m2, hm2⟩ : ∃ m, m = q.length - 2 := ⟨_, rfl⟩
      obtain ⟨m1, hm1⟩ : ∃ m, m = q.length - 1 := ⟨_, rfl⟩
      have cx := (Kd.R_celln ByteArray.empty HO.out (m2 : Int) (by omega) (by omega)).1
      have cy := (Kd.R_celln ByteArray.empty HO.out (m1 : Int) (by omega) (by omega)).1
      simp only [rdOf, Int.toNat_natCast] at cx cy
      rw [← hm2] at hx
      rw [← hm1] at hy
      obtain ⟨x, hxx⟩ : ∃ x, x = q.getD m2 ByteArray.empty := ⟨_, rfl⟩
      obtain ⟨y, hyy⟩ : ∃ y, y = q.getD m1 ByteArray.empty := ⟨_, rfl⟩
      rw [← hxx] at cx hx
      rw [← hyy] at cy hy
      have HND := Lib.hid (show sawyerref15_Node.f x y = some (Hs.node x y) from if_pos (decide_eq_true (by omega)))
      have HJ := Lib.hid (show Sp.join2 q = q.take m2 ++ [Hs.node x y] by rw [Sp.join2, ← hm2, ← hm1, ← hxx, ← hyy])
      have w2 : IntKind.i64.wrap ((q.length : Int) - 2) = (m2 : Int) := by rw [show ((q.length : Int) - 2) = (m2 : Int) by omega]; exact IntWalk.i64_in _ (by omega)
      have w1 : IntKind.i64.wrap ((q.length : Int) - 1) = (m1 : Int) := by rw [show ((q.length : Int) - 1) = (m1 : Int) by omega]; exact IntWalk.i64_in _ (by omega)
      have i0 : (0 : Int) ≤ (m2 : Int) := by omega
      have i1 : (m2 : Int) < (q.length : Int) := by omega
      have i2 : (0 : Int) ≤ (m1 : Int) := by omega
      have i3 : (m1 : Int) < (q.length : Int) := by omega
      obtain ⟨i9, hi9, _, _, _⟩ := info_parts infoT
      have hcut : ∀ W : World, (Instr.slice 22 (.slice (some ⟨g, 0, none⟩) q.length cl) none (some (.int .i64 (m2 : Int))) none).run Try.prog W = .ok (.slice (some ⟨g, 0, none⟩) m2 cl) W := by
        intro W
        have := cut_to (P := Try.prog) 22 9 .i64 Try.underlying22 hi9 (some ⟨g, 0, none⟩) q.length cl (m2 : Int) (by omega) (by omega) (Kd.R_reads' HO.out).2.1 W
        rwa [Int.toNat_natCast] at this
      have i4 : m2 < q.length := by omega
      have i5 : m1 < q.length := by omega
      have HM := Lib.hid (show m2 + 1 ≤ 66 by omega)
      have HML := Lib.hid (show m2 ≤ q.length by omega)
      have HTL := Lib.hid (show (q.take m2).length = m2 by rw [List.length_take]; omega)
      have hh := Lib.hid hodd
      have hnn : (n : Int) / 2 = ((n / 2 : Nat) : Int) := by omega
      have HNN := Lib.hid hnn
      clear hm2 hm1 hx hy hxx hyy hodd h2 hnn
      go_wp2
      refine start_ (n := 20) (S := fun w' => w'.cell? ⟨g, m2, none⟩ = some (.string x) ∧ w'.cell? ⟨g, m1, none⟩ = some (.string y)) (ds := []) #[false, false, false, false, false, false, false, false, false, false, false, false, false, false, false, false, false, false, false, false] (by kernel_rfl) rfl rfl ⟨by rw [World.cell?_drew]; exact cx, by rw [World.cell?_drew]; exact cy⟩ (fun hHeld => ?_); refine with_tabW rpush_tab rpush_bits (fun HT_ HW_ => ?_)
      clear cx cy
      have HOD := Lib.hid (Kd.R_drew HO.out)
      have HG0D : Hid (wx.drew.heap[w.heap.size]? = _) := Lib.hid HG0.out
      have HG1D : Hid (wx.drew.heap[w.heap.size + 1]? = _) := Lib.hid HG1.out
      have HBD := Lib.hid (below_drew HB.out)
      clear hc0 HO HG0 HG1 HB
      obtain ⟨V, hV⟩ : ∃ V, V = wx.drew := ⟨_, rfl⟩
      rw [← hV] at hHeld HOD HG0D HG1D HBD ⊢
      have HS := Lib.hid hHeld
      clear hV
      refine pure_ (i := 1) (N := some 40) (v := ?_) (a' := ?_) #[false, true, false, false, false, false, false, false, false, false, false, false, false, false, false, false, false, false, false, false] rfl rfl (any_of HT_.out (by kernel_rfl)) (fun _ _ _ h => h) (Or.inl ⟨by rfl, ?_⟩) ?_ ?_
      rotate_left
      · intro w'
        go_simp
        with_reducible rfl
      rotate_left
      · simp only [Act.put, List.setIfInBounds_toArray, List.set_cons_zero, List.set_cons_succ, i64_w, i32_w]
        rfl
      refine pure_ (i := 2) (N := some 41) (v := ?_) (a' := ?_) #[false, true, true, false, false, false, false, false, false, false, false, false, false, false, false, false, false, false, false, false] rfl rfl (any_of HT_.out (by kernel_rfl)) (fun _ _ _ h => h) (Or.inl ⟨by rfl, ?_⟩) ?_ ?_
      rotate_left
      · intro w'
        go_simp
        with_reducible rfl
      rotate_left
      · simp only [Act.put, List.setIfInBounds_toArray, List.set_cons_zero, List.set_cons_succ, i64_w, i32_w]
        rfl
      refine pure_ (i := 3) (N := some 42) (v := ?_) (a' := ?_) #[false, true, true, true, false, false, false, false, false, false, false, false, false, false, false, false, false, false, false, false] rfl rfl (any_of HT_.out (by kernel_rfl)) (fun _ _ _ h => h) (Or.inl ⟨by rfl, ?_⟩) ?_ ?_
      rotate_left
      · intro w'
        go_simp
        with_reducible rfl
      rotate_left
      · simp only [Act.put, List.setIfInBounds_toArray, List.set_cons_zero, List.set_cons_succ, i64_w, i32_w]
        rfl
      refine pure_ (i := 4) (N := some 43) (v := ?_) (a' := ?_) #[false, true, true, true, true, false, false, false, false, false, false, false, false, false, false, false, false, false, false, false] rfl rfl (any_of HT_.out (by kernel_rfl)) (fun _ _ _ h => h) (Or.inl ⟨by rfl, ?_⟩) ?_ ?_
      rotate_left
      · intro w'
        go_simp
        with_reducible rfl
      rotate_left
      · simp only [Act.put, List.setIfInBounds_toArray, List.set_cons_zero, List.set_cons_succ, i64_w, i32_w]
        rfl
      refine pure_ (i := 6) (N := some 45) (v := ?_) (a' := ?_) #[false, true, true, true, true, false, true, false, false, false, false, false, false, false, false, false, false, false, false, false] rfl rfl (any_of HT_.out (by kernel_rfl)) (fun _ _ _ h => h) (Or.inl ⟨by rfl, ?_⟩) ?_ ?_
      rotate_left
      · intro w'
        go_simp
        with_reducible rfl
      rotate_left
      · simp only [Act.put, List.setIfInBounds_toArray, List.set_cons_zero, List.set_cons_succ, i64_w, i32_w]
        rfl
      refine pure_ (i := 7) (N := some 46) (v := ?_) (a' := ?_) #[false, true, true, true, true, false, true, true, false, false, false, false, false, false, false, false, false, false, false, false] rfl rfl (any_of HT_.out (by kernel_rfl)) (fun _ _ _ h => h) (Or.inl ⟨by rfl, ?_⟩) ?_ ?_
      rotate_left
      · intro w'
        go_simp
        with_reducible rfl
      rotate_left
      · simp only [Act.put, List.setIfInBounds_toArray, List.set_cons_zero, List.set_cons_succ, i64_w, i32_w]
        rfl
      refine pure_ (i := 8) (N := some 47) (v := ?_) (a' := ?_) #[false, true, true, true, true, false, true, true, true, false, false, false, false, false, false, false, false, false, false, false] rfl rfl (any_of HT_.out (by kernel_rfl)) (fun _ _ _ h => h) (Or.inl ⟨by rfl, ?_⟩) ?_ ?_
      rotate_left
      · intro w'
        go_simp
        with_reducible rfl
      rotate_left
      · simp only [Act.put, List.setIfInBounds_toArray, List.set_cons_zero, List.set_cons_succ, i64_w, i32_w]
        rfl
      refine pure_ (i := 9) (N := some 48) (v := ?_) (a' := ?_) #[false, true, true, true, true, false, true, true, true, true, false, false, false, false, false, false, false, false, false, false] rfl rfl (any_of HT_.out (by kernel_rfl)) (fun _ _ _ h => h) (Or.inl ⟨by rfl, ?_⟩) ?_ ?_
      rotate_left
      · intro w'
        go_simp
        with_reducible rfl
      rotate_left
      · simp only [Act.put, List.setIfInBounds_toArray, List.set_cons_zero, List.set_cons_succ, i64_w, i32_w]
        rfl
      refine take_ (i := 10) (N := some 49) (v := ?_) (a' := ?_) #[false, true, true, true, true, false, true, true, true, true, true, false, false, false, false, false, false, false, false, false] rfl rfl (take_ofW HT_.out HW_.out (by kernel_rfl)) (fun _ _ _ h => h) (Or.inl ⟨by rfl, ?_⟩) hHeld ?_ ?_
      rotate_left
      · rintro w' ⟨s0, s1⟩
        go_simp
        with_reducible rfl
      rotate_left
      · simp only [Act.put, List.setIfInBounds_toArray, List.set_cons_zero, List.set_cons_succ, i64_w, i32_w]
        rfl
      refine pure_ (i := 11) (N := some 50) (v := ?_) (a' := ?_) #[false, true, true, true, true, false, true, true, true, true, true, true, false, false, false, false, false, false, false, false] rfl rfl (any_of HT_.out (by kernel_rfl)) (fun _ _ _ h => h) (Or.inl ⟨by rfl, ?_⟩) ?_ ?_
      rotate_left
      · intro w'
        go_simp
        with_reducible rfl
      rotate_left
      · simp only [Act.put, List.setIfInBounds_toArray, List.set_cons_zero, List.set_cons_succ, i64_w, i32_w]
        rfl
      refine pure_ (i := 12) (N := some 51) (v := ?_) (a' := ?_) #[false, true, true, true, true, false, true, true, true, true, true, true, true, false, false, false, false, false, false, false] rfl rfl (any_of HT_.out (by kernel_rfl)) (fun _ _ _ h => h) (Or.inl ⟨by rfl, ?_⟩) ?_ ?_
      rotate_left
      · intro w'
        go_simp
        with_reducible rfl
      rotate_left
      · simp only [Act.put, List.setIfInBounds_toArray, List.set_cons_zero, List.set_cons_succ, i64_w, i32_w]
        rfl
      refine pure_ (i := 13) (N := some 52) (v := ?_) (a' := ?_) #[false, true, true, true, true, false, true, true, true, true, true, true, true, true, false, false, false, false, false, false] rfl rfl (any_of HT_.out (by kernel_rfl)) (fun _ _ _ h => h) (Or.inl ⟨by rfl, ?_⟩) ?_ ?_
      rotate_left
      · intro w'
        go_simp
        with_reducible rfl
      rotate_left
      · simp only [Act.put, List.setIfInBounds_toArray, List.set_cons_zero, List.set_cons_succ, i64_w, i32_w]
        rfl
      refine pure_ (i := 14) (N := some 53) (v := ?_) (a' := ?_) #[false, true, true, true, true, false, true, true, true, true, true, true, true, true, true, false, false, false, false, false] rfl rfl (any_of HT_.out (by kernel_rfl)) (fun _ _ _ h => h) (Or.inl ⟨by rfl, ?_⟩) ?_ ?_
      rotate_left
      · intro w'
        go_simp
        with_reducible rfl
      rotate_left
      · simp only [Act.put, List.setIfInBounds_toArray, List.set_cons_zero, List.set_cons_succ, i64_w, i32_w]
        rfl
      refine take_ (i := 15) (N := some 54) (v := ?_) (a' := ?_) #[false, true, true, true, true, false, true, true, true, true, true, true, true, true, true, true, false, false, false, false] rfl rfl (take_ofW HT_.out HW_.out (by kernel_rfl)) (fun _ _ _ h => h) (Or.inl ⟨by rfl, ?_⟩) hHeld ?_ ?_
      rotate_left
      · rintro w' ⟨s0, s1⟩
        go_simp
        with_reducible rfl
      rotate_left
      · simp only [Act.put, List.setIfInBounds_toArray, List.set_cons_zero, List.set_cons_succ, i64_w, i32_w]
        rfl
      refine one_ (i := 0) (N := some 39) #[true, true, true, true, true, false, true, true, true, true, true, true, true, true, true, true, false, false, false, false] rfl rfl (one_of HT_.out (by kernel_rfl)) (by decide) (fun K hK => ?_)
      refine litT_none_step (w0 := V) V.heap.size (by rfl) rfl rfl (Below.refl V.heap.size V) (Nat.le_refl _) ?_
      intro va wa oa ba ga _
      refine hK.out _ _ ⟨pw_cell_below ba HS.out.1, pw_cell_below ba HS.out.2⟩ (fun hHeld => ?_)
      clear hK K
      refine norm_ (a' := ?_) ?_ ?_
      rotate_left
      · show Act.put _ (some 39) _ = _
        simp only [Act.put, List.setIfInBounds_toArray, List.set_cons_zero, List.set_cons_succ, i64_w, i32_w]
        rfl
      refine one_ (i := 5) (N := some 44) #[true, true, true, true, true, true, true, true, true, true, true, true, true, true, true, true, false, false, false, false] rfl rfl (one_of HT_.out (by kernel_rfl)) (by decide) (fun K hK => ?_)
      refine appT_row_step (w0 := V) V.heap.size (by rfl) rfl (.tmp 39) (.tmp 43) rfl va [] (q.take m2) _ m2 cl rfl rfl oa (by have h := (Kd.R_reads' (Kd.R_take (ownT_below HOD.out ba) HML.out)).2.2; rw [HTL.out] at h; exact h) ba ba.size (by have := HM.out; simp; omega) ?_
      intro vb wb ob bb gb _
      rw [List.nil_append] at ob
      refine hK.out _ _ ⟨pw_cell_below bb HS.out.1, pw_cell_below bb HS.out.2⟩ (fun hHeld => ?_)
      clear oa ba ga gb
      clear hK K
      refine norm_ (a' := ?_) ?_ ?_
      rotate_left
      · show Act.put _ (some 44) _ = _
        simp only [Act.put, List.setIfInBounds_toArray, List.set_cons_zero, List.set_cons_succ, i64_w, i32_w]
        rfl
      refine one_ (i := 16) (N := some 55) #[true, true, true, true, true, true, true, true, true, true, true, true, true, true, true, true, true, false, false, false] rfl rfl (one_of HT_.out (by kernel_rfl)) (by decide) (fun K hK => ?_)
      refine goes_ Try.func32 (by kernel_rfl) rfl #[.string x, .string y] (by rfl) rfl rfl (by simp only [List.map_toArray, List.map_cons, List.map_nil]; rfl) ?_
      refine (sawyerref15_Node.calls x y (Hs.node x y) wb HND.out).mono ?_
      rintro e w4 ⟨rfl, hb4⟩
      refine ⟨_, rfl, ?_⟩
      have b4 := below_then bb bb.size hb4
      refine hK.out _ _ ⟨pw_cell_below b4 HS.out.1, pw_cell_below b4 HS.out.2⟩ (fun hHeld => ?_)
      have o4 := ownT_below ob hb4
      clear ob bb hb4
      clear hK K
      refine norm_ (a' := ?_) ?_ ?_
      rotate_left
      · show Act.put _ (some 55) _ = _
        simp only [Act.put, List.setIfInBounds_toArray, List.set_cons_zero, List.set_cons_succ, i64_w, i32_w]
        rfl
      refine one_ (i := 17) (N := some 56) #[true, true, true, true, true, true, true, true, true, true, true, true, true, true, true, true, true, true, false, false] rfl rfl (one_of HT_.out (by kernel_rfl)) (by decide) (fun K hK => ?_)
      refine boxT_step (by rfl) rfl _ rfl (Hs.node x y) rfl ?_
      refine hK.out _ _ ⟨pw_cell_below (b4.alloc b4.size _) HS.out.1, pw_cell_below (b4.alloc b4.size _) HS.out.2⟩ (fun hHeld => ?_)
      clear hK K
      refine norm_ (a' := ?_) ?_ ?_
      rotate_left
      · show Act.put _ (some 56) _ = _
        simp only [Act.put, List.setIfInBounds_toArray, List.set_cons_zero, List.set_cons_succ, i64_w, i32_w]
        rfl
      refine one_ (i := 18) (N := some 57) #[true, true, true, true, true, true, true, true, true, true, true, true, true, true, true, true, true, true, true, false] rfl rfl (one_of HT_.out (by kernel_rfl)) (by decide) (fun K hK => ?_)
      refine appT_one_step (w0 := V) V.heap.size (by rfl) rfl (.tmp 44) (.tmp 56) rfl vb (q.take m2) (Hs.node x y) rfl rfl o4 b4 b4.size (by have := HM.out; simp; omega) ?_
      intro v6 w6 ho6 hb6 hg6 _
      rw [← HJ.out] at ho6
      refine hK.out _ _ ⟨pw_cell_below hb6 HS.out.1, pw_cell_below hb6 HS.out.2⟩ (fun hHeld => ?_)
      obtain ⟨A6, c6, rfl⟩ := Kd.R_slice ho6
      have HG6 : Hid (w6.heap[w.heap.size]? = _) := Lib.hid ((hb6.block _ (blk_lt HG0D.out)).trans HG0D.out)
      have HG7 : Hid (w6.heap[w.heap.size + 1]? = _) := Lib.hid ((hb6.block _ (blk_lt HG1D.out)).trans HG1D.out)
      have HO6 := Lib.hid (Kd.R_lower ho6 HBD.out.size)
      have HB6 := Lib.hid (below_then HBD.out HBD.out.size hb6)
      clear ho6 hb6 hg6 o4 b4 HOD HG0D HG1D HBD hHeld HS HND HJ
      clear hK K
      refine norm_ (a' := ?_) ?_ ?_
      rotate_left
      · show Act.put _ (some 57) _ = _
        simp only [Act.put, List.setIfInBounds_toArray, List.set_cons_zero, List.set_cons_succ, i64_w, i32_w]
        rfl
      refine pure_ (i := 19) (N := some 6) (v := ?_) (a' := ?_) #[true, true, true, true, true, true, true, true, true, true, true, true, true, true, true, true, true, true, true, true] rfl rfl (any_of HT_.out (by kernel_rfl)) (fun _ _ _ h => h) (Or.inl ⟨by rfl, ?_⟩) ?_ ?_
      rotate_left
      · intro w'
        go_simp
        with_reducible rfl
      rotate_left
      · simp only [Act.put, List.setIfInBounds_toArray, List.set_cons_zero, List.set_cons_succ, i64_w, i32_w]
        rfl
      refine done_ (done_of HT_.out (by kernel_rfl)) ?_
      clear HT_ HW_
      go_wp2
      try rw [HNN.out]
      go_roundw
      case rel => exact ⟨n / 2, Sp.join2 q, A6, c6, rfl, by first | rfl | rw [HNN.out], HNX.out, HO6.out, HG6.out, HG7.out, HB6.out⟩
      case measure => have := hh.out; simp [intOf]; omega
    · have hrm : ((n : Int) % 2 == 1) = false := by simp; omega
      have hrm2 : (Int.tmod (n : Int) 2 == 1) = false := by rw [show Int.tmod (n : Int) 2 = ((n % 2 : Nat) : Int) from rfl, show n % 2 = 0 by omega]; rfl
      have hqr := Lib.hid (HAT.out.even hodd)
      have hfz0 : wx.frozen? ⟨w.heap.size + 1, 0, none⟩ = false := blk_frozen HG1.out 0
      have hfz1 : wx.frozen? ⟨w.heap.size + 1, 1, none⟩ = false := blk_frozen HG1.out 1
      have hcc0 : wx.cell? ⟨w.heap.size + 1, 0, none⟩ = some (.int .i64 0) := by rw [blk_cell HG1.out]; rfl
      have hcc1 : wx.cell? ⟨w.heap.size + 1, 1, none⟩ = some (.slice none 0 0) := by rw [blk_cell HG1.out]; rfl
      have hss : IntKind.i64.wrap ((n0 : Int) + 1) = (n0 : Int) + 1 := IntWalk.i64_in _ (by have := HAP.out; omega)
      clear hodd
      go_wp2
      refine bodyPost_ret (results_rspan 4 5 rfl _ _ _ rfl (set_two HG1.out _ _)) rfl ⟨_, rfl, ?_, below_setCell (below_setCell HB.out (by omega) _ _) (by omega) _ _⟩
      rw [← hqr.out]
      exact ownT_set (ownT_set HO.out HG1.out (by decide) _ _) (blk_set HG1.out _ _) (by decide) _ _
-- END
end Go.Proofs.Ytoihdghoopgdfaa
end
section
/-
  span.Push, sawyerref16.Push: their contracts.
-/
namespace Go.Proofs.Ytoihdghoopgdfaa
open Go.RowKit Go.Proofs.YtoihdghoopgdfaaW.PrintWords Go.Proofs.YtoihdghoopgdfaaW.PrintLast Go.Proofs.YtoihdghoopgdfaaW.PrintMore
set_option linter.unusedVariables false
set_option linter.unusedSimpArgs false
theorem pushed_yes {a : Int} {l : List ByteArray} {leaf : ByteArray} (h : spanOk a l = true ∧ a ≠ 1099511627776 ∧ leaf.size = 32) : Sp.pushed a l leaf = (a + 1, Sp.carry 64 a.toNat (l ++ [leaf]), 0) := if_pos h
theorem pushed_no {a : Int} {l : List ByteArray} {leaf : ByteArray} (h : ¬ (spanOk a l = true ∧ a ≠ 1099511627776 ∧ leaf.size = 32)) : Sp.pushed a l leaf = (0, [], 1) := if_neg h
theorem span_Push.calls (a0_0 : Int) (A0_1 : Option Addr) (c0_1 : Nat) (l0_1 : List ByteArray) (a1 : ByteArray) (r1 : Int) (r2 : List ByteArray) (r3 : Int) (w : World) (hr0_1 : Kd.C Kd.string w A0_1 l0_1.length l0_1) (hc0_1 : l0_1.length ≤ c0_1) (h : span_Push.f a0_0 l0_1 a1 = some (r1, r2, r3)) :
    Calls Try.prog 9 #[.agg #[.int .i64 a0_0, .slice A0_1 l0_1.length c0_1], .string a1] w fun e w' => ∃ v1_ : Value, e = .returned (.tuple #[.agg #[.int .i64 r1, v1_], .int .i64 r3]) ∧ Kd.R Kd.string 9 w' w.heap.size (fun _ => True) v1_ r2 ∧ Below w.heap.size w w' := by
  unfold span_Push.f at h
  have h' := Option.some.inj h
  by_cases hok : spanOk a0_0 l0_1 = true ∧ a0_0 ≠ 1099511627776 ∧ a1.size = 32
  · rw [pushed_yes hok] at h'
    injection h' with e1 e2
    injection e2 with e2 e3
    obtain ⟨n0, rfl⟩ : ∃ n : Nat, a0_0 = n := ⟨a0_0.toNat, by have := ((spanOk_iff _ _).1 hok.1).1; omega⟩
    rw [Int.toNat_natCast] at e2
    rw [← e1, ← e3]
    exact push_ok n0 A0_1 c0_1 l0_1 a1 r2 w hr0_1 hc0_1 hok.1 hok.2.1 hok.2.2 e2.symm
  · rw [pushed_no hok] at h'
    injection h' with e1 e2
    injection e2 with e2 e3
    rw [← e1, ← e2, ← e3]
    refine (push_err a0_0 A0_1 c0_1 l0_1 a1 w hr0_1 hc0_1 hok).mono ?_
    rintro e w' ⟨rfl, hb⟩
    exact ⟨_, rfl, Kd.R_nil _ _ _ _ _, hb⟩
def sawyerref16_Push.f (a0_0 : Int) (l0_1 : List ByteArray) (a1 : ByteArray) : Option (Int × List ByteArray × Int) := if l0_1.length ≤ 9223372036854775806 then some (Sp.pushed a0_0 l0_1 a1) else none
set_option maxHeartbeats 4000000 in
set_option maxRecDepth 100000 in
theorem rpush_err (a : Int) (A : Option Addr) (c : Nat) (l : List ByteArray) (leaf : ByteArray) (kk : Nat) (w : World) (hr : RdT w A l) (hc : l.length ≤ c) (h : ¬ (spanOk a l = true ∧ a ≠ 1099511627776 ∧ leaf.size = 32)) (hkk : F.sawyerref16_Check.f kk a l = some (if spanOk a l = true then 0 else 1)) :
    Calls Try.prog 11 #[.agg #[.int .i64 a, .slice A l.length c], .string leaf] w fun e w' => e = .returned (.tuple #[.agg #[.int .i64 0, .slice none 0 0], .int .i64 1]) ∧ Below w.heap.size w w' := by
  have HR := Lib.hid hr
  clear hr
  by_cases h1 : spanOk a l = true
  · rw [if_pos h1] at hkk
    have hck := Lib.hid hkk
    by_cases h2 : a = 1099511627776
    · have e2 : (a == 1099511627776) = true := by simpa using h2
      clear h h1 h2 hkk
      go_enter Try.func11, Try.ntmps11
      go_wp2_with fail
      refine (F.sawyerref16_Check.calls kk a A c l 0 _ (Kd.C_alloc (Kd.C_alloc HR.out _) _) hc hck.out).mono ?_
      rintro e w1 ⟨rfl, hb⟩
      obtain ⟨hcl, hfz⟩ := bcell hb
      have HB := Lib.hid (two_blocks hb)
      clear hb
      go_wp2
      exact bodyPost_ret (results_rspan 4 5 rfl _ _ _ rfl (set_two HB.out.2.1 _ _)) rfl ⟨rfl, below_setCell (below_setCell HB.out.2.2.1 (by omega) _ _) (by omega) _ _⟩
    · have e2 : (a == 1099511627776) = false := by simpa using h2
      have h3 : ((leaf.size : Int) != 32) = true := by have : leaf.size ≠ 32 := fun e => h ⟨h1, h2, e⟩; simp; omega
      clear h h1 h2 hkk
      go_enter Try.func11, Try.ntmps11
      go_wp2_with fail
      refine (F.sawyerref16_Check.calls kk a A c l 0 _ (Kd.C_alloc (Kd.C_alloc HR.out _) _) hc hck.out).mono ?_
      rintro e w1 ⟨rfl, hb⟩
      obtain ⟨hcl, hfz⟩ := bcell hb
      have HB := Lib.hid (two_blocks hb)
      clear hb
      go_wp2
      exact bodyPost_ret (results_rspan 4 5 rfl _ _ _ rfl (set_two HB.out.2.1 _ _)) rfl ⟨rfl, below_setCell (below_setCell HB.out.2.2.1 (by omega) _ _) (by omega) _ _⟩
  · rw [if_neg h1] at hkk
    have hck := Lib.hid hkk
    clear h h1 hkk
    go_enter Try.func11, Try.ntmps11
    go_wp2_with fail
    refine (F.sawyerref16_Check.calls kk a A c l 1 _ (Kd.C_alloc (Kd.C_alloc HR.out _) _) hc hck.out).mono ?_
    rintro e w1 ⟨rfl, hb⟩
    obtain ⟨hcl, hfz⟩ := bcell hb
    have HB := Lib.hid (two_blocks hb)
    clear hb
    go_wp2
    exact bodyPost_ret (results_rspan 4 5 rfl _ _ _ rfl (set_two HB.out.2.1 _ _)) rfl ⟨rfl, below_setCell (below_setCell HB.out.2.2.1 (by omega) _ _) (by omega) _ _⟩
theorem sawyerref16_Push.calls (a0_0 : Int) (A0_1 : Option Addr) (c0_1 : Nat) (l0_1 : List ByteArray) (a1 : ByteArray) (r1 : Int) (r2 : List ByteArray) (r3 : Int) (w : World) (hr0_1 : Kd.C Kd.string w A0_1 l0_1.length l0_1) (hc0_1 : l0_1.length ≤ c0_1) (h : sawyerref16_Push.f a0_0 l0_1 a1 = some (r1, r2, r3)) :
    Calls Try.prog 11 #[.agg #[.int .i64 a0_0, .slice A0_1 l0_1.length c0_1], .string a1] w fun e w' => ∃ v1_ : Value, e = .returned (.tuple #[.agg #[.int .i64 r1, v1_], .int .i64 r3]) ∧ Kd.R Kd.string 9 w' w.heap.size (fun _ => True) v1_ r2 ∧ Below w.heap.size w w' := by
  unfold sawyerref16_Push.f at h
  split at h
  case isFalse => cases h
  rename_i hlen
  have h' := Option.some.inj h
  obtain ⟨kk, hkk⟩ := (F.check_ev a0_0 l0_1 hlen).rounds
  by_cases hok : spanOk a0_0 l0_1 = true ∧ a0_0 ≠ 1099511627776 ∧ a1.size = 32
  · rw [pushed_yes hok] at h'
    injection h' with e1 e2
    injection e2 with e2 e3
    obtain ⟨n0, rfl⟩ : ∃ n : Nat, a0_0 = n := ⟨a0_0.toNat, by have := ((spanOk_iff _ _).1 hok.1).1; omega⟩
    rw [Int.toNat_natCast] at e2
    rw [← e1, ← e3]
    rw [if_pos hok.1] at hkk
    exact rpush_ok n0 A0_1 c0_1 l0_1 a1 r2 kk w hr0_1 hc0_1 hok.1 hok.2.1 hok.2.2 e2.symm hkk
  · rw [pushed_no hok] at h'
    injection h' with e1 e2
    injection e2 with e2 e3
    rw [← e1, ← e2, ← e3]
    refine (rpush_err a0_0 A0_1 c0_1 l0_1 a1 kk w hr0_1 hc0_1 hok hkk).mono ?_
    rintro e w' ⟨rfl, hb⟩
    exact ⟨_, rfl, Kd.R_nil _ _ _ _ _, hb⟩
end Go.Proofs.Ytoihdghoopgdfaa
end
section
-- WRITTEN BY A PROGRAM OF THIS PLACE (wip/tools/pp.sh: the print, turned for functions proved by hand). Lean checks it.
namespace Go.Proofs.Ytoihdghoopgdfaa.F
open Go.RowKit Go.Proofs.YtoihdghoopgdfaaW.PrintWords Go.Proofs.YtoihdghoopgdfaaW.PrintLast Go.Proofs.YtoihdghoopgdfaaW.PrintMore
attribute [local go_sem] max2_int min2_int max_two min_two max_three min_three max_four min_four   -- for this text's walks alone
set_option linter.unusedVariables false
set_option linter.unusedSimpArgs false
/-! ### span_Of: function 19 -/
def span_Of.l0 : Nat → List ByteArray → Int → Int → Int → List ByteArray → Option (Int × List ByteArray × Int)
  | 0, _, _, _, _, _ => none
  | k + 1, x9, x10, x11, x125000, x125001 => if x11 < x10 then (if 0 ≤ x11 then (if x11 < (x9.length : Int) then ((span_Push.f x125000 x125001 (rdOf ByteArray.empty x9 x11)).bind fun bt126 => (if bt126.2.2 = 0 then (span_Of.l0 k x9 x10 (wrap64 (x11 + 1)) bt126.1 bt126.2.1) else (some (0, ([] : List ByteArray), bt126.2.2)))) else (none)) else (none)) else (some (x125000, x125001, 0))
def span_Of.f (k : Nat) (l0 : List ByteArray) : Option (Int × List ByteArray × Int) := span_Of.l0 k l0 (l0.length : Int) 0 0 ([] : List ByteArray)
set_option maxHeartbeats 8000000 in
set_option maxRecDepth 100000 in
theorem span_Of.calls (k : Nat) (A0 : Option Addr) (c0 : Nat) (l0 : List ByteArray) (r1 : Int) (r2 : List ByteArray) (r3 : Int) (w : World) (hr0 : Kd.C Kd.string w A0 l0.length l0) (hc0 : l0.length ≤ c0) (h : span_Of.f k l0 = some (r1, r2, r3)) :
    Calls Try.prog 19 #[.slice A0 l0.length c0] w fun e w' => ∃ v1_ : Value, e = .returned (.tuple #[.agg #[.int .i64 r1, v1_], .int .i64 r3]) ∧ Kd.R Kd.string 9 w' w.heap.size (fun _ => True) v1_ r2 ∧ Below w.heap.size w w' := by
  (have hu26 := Try.underlying26); (have HR0 := Aside0.mk hr0); (have HC0 := Aside0.mk hc0); (clear hr0 hc0); (have HB := Aside0.mk (Below.refl w.heap.size w)); (have H : (span_Of.l0 k l0 (l0.length : Int) 0 0 ([] : List ByteArray)) = some (r1, r2, r3) := h); (clear h); (have H' := Aside0.mk H); (clear H); (go_enter Try.func19, Try.ntmps19); (go_wp2_with (first | ((with_reducible refine gate_dst (N := 2) rfl ?_); refine box_event ?hg (N := 2) ?hd (cs := #[.int .i64 0, .slice none 0 0]) (t := 26) ?hr ?_; (case hd => rfl); (case hg => rfl); (case hr => first | (go_simp; done) | (go_simp; rfl) | (go_simp; simp [IntKind.wrap_u32]; done)); intro gb123 hg w2 hbox hb; have n0_ := Aside0.mk (below_step (by repeat (first | (with_reducible first | exact HB.out | apply below_alloc | apply pw_below_drewN | apply below_drew1) | exact HB.out)) hb); have n1_ := Aside0.mk (hbox); have n2_ := Aside0.mk ((by rw [hg]; exact (below_size (by repeat (first | (with_reducible first | exact HB.out | apply below_alloc | apply pw_below_drewN | apply below_drew1) | exact HB.out))) : w.heap.size ≤ gb123)); have n3_ := Aside0.mk ((by rw [hg]; exact (below_size (by repeat (first | (with_reducible first | exact HB.out | apply below_alloc | apply pw_below_drewN | apply below_drew1) | exact HB.out))) : w.heap.size ≤ gb123)); clear HB; have HB := n0_; have BK123 := n1_; have GW123 := n2_; have GE123 := n3_; clear n0_ n1_ n2_ n3_; clear hb hbox hg) | ((with_reducible refine gate_dst (N := 4) rfl ?_); refine box_event ?hg (N := 4) ?hd (cs := #[.int .i64 0, .slice none 0 0]) (t := 26) ?hr ?_; (case hd => rfl); (case hg => rfl); (case hr => first | (go_simp; done) | (go_simp; rfl) | (go_simp; simp [IntKind.wrap_u32]; done)); intro gb124 hg w3 hbox hb; have n0_ := Aside0.mk (blk_below (g := gb123) (o := .cells #[.int .i64 0, .slice none 0 0] 26 (0, 0)) (by (with_reducible repeat (first | refine blk_drewN ?_ _ | refine blk_drew ?_ | refine blk_alloc ?_ _)); exact BK123.out) hb); have n1_ := Aside0.mk (below_step (by repeat (first | (with_reducible first | exact HB.out | apply below_alloc | apply pw_below_drewN | apply below_drew1 | refine below_set ?_ GE123.out) | exact HB.out)) hb); have n2_ := Aside0.mk (hbox); have n3_ := Aside0.mk ((by rw [hg]; exact (below_size (by repeat (first | (with_reducible first | exact HB.out | apply below_alloc | apply pw_below_drewN | apply below_drew1 | refine below_set ?_ GE123.out) | exact HB.out))) : w.heap.size ≤ gb124)); have n4_ := Aside0.mk ((by rw [hg]; exact (below_size (by repeat (first | (with_reducible first | exact HB.out | apply below_alloc | apply pw_below_drewN | apply below_drew1 | refine below_set ?_ GE123.out) | exact HB.out))) : w.heap.size ≤ gb124)); have n5_ := Aside0.mk ((by rw [hg]; exact Nat.ne_of_lt (blk_lt (g := gb123) (o := .cells #[.int .i64 0, .slice none 0 0] 26 (0, 0)) (by (with_reducible repeat (first | refine blk_drewN ?_ _ | refine blk_drew ?_ | refine blk_alloc ?_ _)); exact BK123.out)) : gb123 ≠ gb124)); have n6_ := Aside0.mk ((by rw [hg]; exact Nat.ne_of_gt (blk_lt (g := gb123) (o := .cells #[.int .i64 0, .slice none 0 0] 26 (0, 0)) (by (with_reducible repeat (first | refine blk_drewN ?_ _ | refine blk_drew ?_ | refine blk_alloc ?_ _)); exact BK123.out)) : gb124 ≠ gb123)); clear BK123; clear HB; have BK123 := n0_; have HB := n1_; have BK124 := n2_; have GW124 := n3_; have GE124 := n4_; have NB123_124 := n5_; have NB124_123 := n6_; clear n0_ n1_ n2_ n3_ n4_ n5_ n6_; clear hb hbox hg))); (go_loopg [11] k (fun kq v11 w' => ∃ (x11_1 : Int) (x124000_1 : Int) (x125000_1 : Int) (x125001_1 : List ByteArray) (u125001 : Value), v11 = .int .i64 x11_1 ∧ Aside0 (span_Of.l0 kq l0 (l0.length : Int) x11_1 x125000_1 x125001_1 = some (r1, r2, r3)) ∧ Aside0 (kq ≤ k) ∧ Aside0 (Kd.R Kd.string 9 w' w.heap.size (fun _ => True) u125001 x125001_1) ∧ Aside0 (w'.heap[gb123]? = some (.cells #[.int .i64 x124000_1, (.slice none 0 0)] 26 (0, 0))) ∧ Aside0 (w'.heap[gb124]? = some (.cells #[.int .i64 x125000_1, u125001] 26 (0, 0))) ∧ Aside0 (Below w.heap.size w w')))
  case atStart => exact ⟨(0), (0), (0), (([] : List ByteArray)), (.slice none 0 0), (by first | rfl | (simp; done) | (simp [*]; done)), H', ⟨Nat.le_refl _⟩, ⟨by first | exact Kd.R_nil _ _ _ _ _ | exact Kd.N_nil _ _ _ _ _ | exact Kd.V_nil _ _ _ _ _ | exact Kd.Q_nil _ _ _ _ _ | exact Kd.S_nil _ _ _ _ _⟩, ⟨by (with_reducible repeat (first | refine blk_drewN ?_ _ | refine blk_drew ?_ | refine blk_alloc ?_ _)); exact BK123.out⟩, ⟨by (with_reducible repeat (first | refine blk_drewN ?_ _ | refine blk_drew ?_ | refine blk_alloc ?_ _)); exact BK124.out⟩, ⟨by repeat (first | (with_reducible first | exact HB.out | apply below_alloc | apply pw_below_drewN | apply below_drew1 | refine below_set ?_ GE123.out | refine below_set ?_ GE124.out) | exact HB.out)⟩⟩
  case round =>
    (clear H'); (try clear c1); (try clear p2); (obtain ⟨x11_1, x124000_1, x125000_1, x125001_1, u125001, rfl, HA, HK1, HO_125001, BK123, BK124, HB⟩ := hrel)
    cases gk with
    | zero => exact absurd HA.out (by simp [span_Of.l0])
    | succ k1 =>
      (have H := HA.out); (clear HA); (simp only [span_Of.l0] at H); (by_cases c4 : x11_1 < (l0.length : Int))
      · (rw [if_pos c4] at H); (have c4b0 : decide (x11_1 < (l0.length : Int)) = true := decide_eq_true c4); (clear c4); (by_cases c5 : 0 ≤ x11_1)
        · (rw [if_pos c5] at H); (have c5b0 : decide (0 ≤ x11_1) = true := decide_eq_true c5); (clear c5); (by_cases c6 : x11_1 < (l0.length : Int))
          · (rw [if_pos c6] at H); (have c6b0 : decide (x11_1 < (l0.length : Int)) = true := decide_eq_true c6); (clear c6); (replace H := Option.bind_eq_some_iff.mp H); (obtain ⟨⟨t126, t127, t130⟩, A70, H⟩ := H); (replace H : (if t130 = 0 then (span_Of.l0 k1 l0 (l0.length : Int) (wrap64 (x11_1 + 1)) t126 t127) else (some (0, ([] : List ByteArray), t130))) = some (r1, r2, r3) := H); (have A7 := Aside0.mk A70); (clear A70); (by_cases c8 : t130 = 0)
            · (rw [if_pos c8] at H); (have c8b0 : (t130 == 0) = true := beq_iff_eq.mpr c8); (have c8b1 : (t130 != 0) = false := bne_eq_false_iff_eq.mpr c8); (clear c8); (have H' := Aside0.mk H); (clear H); (have p125 : 0 ≤ (x11_1 : Int) := of_decide_eq_true (by first | (with_reducible assumption) | assumption)); (have q125 : x11_1 < (l0.length : Int) := of_decide_eq_true (by first | (with_reducible assumption) | assumption)); (obtain ⟨ad125, e125, hx125_0⟩ := Kd.at_string HR0.out x11_1 p125 q125)
              cases e125
              (replace hx125_0 := (HB.out.cell (World.block_lt_of_cell? w _ hx125_0)).trans hx125_0); (replace p125 := eq_true p125); (replace q125 := eq_true q125); (have hnb9 := NB124_123.out); (have hnc9 := NB123_124.out); (have hcz10_0 : wr.cell? ⟨gb124, 0, none⟩ = some (.int .i64 x125000_1) := (blk_cell BK124.out 0).trans rfl); (have hcz10_1 : wr.cell? ⟨gb124, 1, none⟩ = some (u125001) := (blk_cell BK124.out 1).trans rfl); (have hfz10_0 := blk_frozen BK124.out 0); (have hfz10_1 := blk_frozen BK124.out 1); (obtain ⟨Ao11, co11, eo11⟩ := Kd.R_slice HO_125001.out); (subst eo11)
              (go_wp2_with (first | ((with_reducible refine gate_callee (f := 9) rfl ?_); refine goesL_ (some 18) rfl rfl Try.func9 (by kernel_rfl) rfl #[.agg #[.int .i64 x125000_1, .slice Ao11 x125001_1.length co11], .string (rdOf ByteArray.empty l0 x11_1)] rfl (by (try simp only [List.map_toArray, List.map_cons, List.map_nil]); first | done | rfl | (simp only [List.length_drop, List.length_take]; rfl)) ?_; (with_reducible refine (span_Push.calls x125000_1 _ _ x125001_1 (rdOf ByteArray.empty l0 x11_1) t126 t127 t130 _ ?side1 ?side2 A7.out).mono ?_); (case side1 => repeat (first | exact (Kd.R_reads' HO_125001.out).2.2 | (with_reducible refine Kd.C_alloc ?_ _) | (with_reducible refine Kd.C_drewN ?_ _) | (with_reducible refine Kd.C_drew ?_))); (case side2 => exact (Kd.R_reads' HO_125001.out).2.1); rintro e w12 ⟨v128, rfl, ho0, hb⟩; refine ⟨_, rfl, ?_⟩; have n0_ := Aside0.mk (Kd.R_elder' (by (with_reducible repeat (first | apply Kd.R_alloc | apply Kd.R_drewN | apply Kd.R_drew)); exact HO_125001.out) (Kd.R_base ho0) hb); have n1_ := Aside0.mk (Kd.R_lower (Kd.R_new' ho0 (Kd.R_lt (by (with_reducible repeat (first | apply Kd.R_alloc | apply Kd.R_drewN | apply Kd.R_drew)); exact HO_125001.out))) (below_size (by repeat (first | (with_reducible first | exact HB.out | apply below_alloc | apply pw_below_drewN | apply below_drew1 | refine below_set ?_ GE123.out | refine below_set ?_ GE124.out) | exact HB.out)))); have n2_ := Aside0.mk (blk_below (g := gb123) (o := .cells #[.int .i64 x124000_1, .slice none 0 0] 26 (0, 0)) (by (with_reducible repeat (first | refine blk_drewN ?_ _ | refine blk_drew ?_ | refine blk_alloc ?_ _)); exact BK123.out) hb); have n3_ := Aside0.mk (blk_below (g := gb124) (o := .cells #[.int .i64 x125000_1, .slice Ao11 x125001_1.length co11] 26 (0, 0)) (by (with_reducible repeat (first | refine blk_drewN ?_ _ | refine blk_drew ?_ | refine blk_alloc ?_ _)); exact BK124.out) hb); have n4_ := Aside0.mk (below_step (by repeat (first | (with_reducible first | exact HB.out | apply below_alloc | apply pw_below_drewN | apply below_drew1 | refine below_set ?_ GE123.out | refine below_set ?_ GE124.out) | exact HB.out)) hb); clear HO_125001; clear BK123; clear BK124; clear HB; have HO_125001 := n0_; have HO129 := n1_; have BK123 := n2_; have BK124 := n3_; have HB := n4_; clear n0_ n1_ n2_ n3_ n4_; (try clear hb); (try clear hb2); (try clear hk); (try clear hi); (try clear ho0)) | ((with_reducible refine gate_dst (N := 7) rfl ?_); refine box_event ?hg (N := 7) ?hd (cs := #[.int .i64 0, .slice none 0 0]) (t := 26) ?hr ?_; (case hd => rfl); (case hg => rfl); (case hr => first | (go_simp; done) | (go_simp; rfl) | (go_simp; simp [IntKind.wrap_u32]; done)); intro gb131 hg w13 hbox hb; have n0_ := Aside0.mk (Kd.R_below (by (with_reducible repeat (first | apply Kd.R_alloc | apply Kd.R_drewN | apply Kd.R_drew)); exact HO_125001.out) hb); have n1_ := Aside0.mk (Kd.R_below (by (with_reducible repeat (first | apply Kd.R_alloc | apply Kd.R_drewN | apply Kd.R_drew)); exact HO129.out) hb); have n2_ := Aside0.mk (blk_below (g := gb123) (o := .cells #[.int .i64 x124000_1, .slice none 0 0] 26 (0, 0)) (by (with_reducible repeat (first | refine blk_drewN ?_ _ | refine blk_drew ?_ | refine blk_alloc ?_ _)); exact BK123.out) hb); have n3_ := Aside0.mk (blk_below (g := gb124) (o := .cells #[.int .i64 x125000_1, .slice Ao11 x125001_1.length co11] 26 (0, 0)) (by (with_reducible repeat (first | refine blk_drewN ?_ _ | refine blk_drew ?_ | refine blk_alloc ?_ _)); exact BK124.out) hb); have n4_ := Aside0.mk (below_step (by repeat (first | (with_reducible first | exact HB.out | apply below_alloc | apply pw_below_drewN | apply below_drew1 | refine below_set ?_ GE123.out | refine below_set ?_ GE124.out) | exact HB.out)) hb); have n5_ := Aside0.mk (hbox); have n6_ := Aside0.mk ((by rw [hg]; exact (below_size (by repeat (first | (with_reducible first | exact HB.out | apply below_alloc | apply pw_below_drewN | apply below_drew1 | refine below_set ?_ GE123.out | refine below_set ?_ GE124.out) | exact HB.out))) : w.heap.size ≤ gb131)); have n7_ := Aside0.mk ((by rw [hg]; exact (below_size (by repeat (first | (with_reducible first | exact HB.out | apply below_alloc | apply pw_below_drewN | apply below_drew1 | refine below_set ?_ GE123.out | refine below_set ?_ GE124.out) | exact HB.out))) : w.heap.size ≤ gb131)); have n8_ := Aside0.mk ((by rw [hg]; exact Nat.ne_of_lt (blk_lt (g := gb123) (o := .cells #[.int .i64 x124000_1, .slice none 0 0] 26 (0, 0)) (by (with_reducible repeat (first | refine blk_drewN ?_ _ | refine blk_drew ?_ | refine blk_alloc ?_ _)); exact BK123.out)) : gb123 ≠ gb131)); have n9_ := Aside0.mk ((by rw [hg]; exact Nat.ne_of_gt (blk_lt (g := gb123) (o := .cells #[.int .i64 x124000_1, .slice none 0 0] 26 (0, 0)) (by (with_reducible repeat (first | refine blk_drewN ?_ _ | refine blk_drew ?_ | refine blk_alloc ?_ _)); exact BK123.out)) : gb131 ≠ gb123)); have n10_ := Aside0.mk ((by rw [hg]; exact Nat.ne_of_lt (blk_lt (g := gb124) (o := .cells #[.int .i64 x125000_1, .slice Ao11 x125001_1.length co11] 26 (0, 0)) (by (with_reducible repeat (first | refine blk_drewN ?_ _ | refine blk_drew ?_ | refine blk_alloc ?_ _)); exact BK124.out)) : gb124 ≠ gb131)); have n11_ := Aside0.mk ((by rw [hg]; exact Nat.ne_of_gt (blk_lt (g := gb124) (o := .cells #[.int .i64 x125000_1, .slice Ao11 x125001_1.length co11] 26 (0, 0)) (by (with_reducible repeat (first | refine blk_drewN ?_ _ | refine blk_drew ?_ | refine blk_alloc ?_ _)); exact BK124.out)) : gb131 ≠ gb124)); clear HO_125001; clear HO129; clear BK123; clear BK124; clear HB; have HO_125001 := n0_; have HO129 := n1_; have BK123 := n2_; have BK124 := n3_; have HB := n4_; have BK131 := n5_; have GW131 := n6_; have GE131 := n7_; have NB123_131 := n8_; have NB131_123 := n9_; have NB124_131 := n10_; have NB131_124 := n11_; clear n0_ n1_ n2_ n3_ n4_ n5_ n6_ n7_ n8_ n9_ n10_ n11_; clear hb hbox hg; have hnb14 := NB131_123.out; have hnc14 := NB123_131.out; have hnb15 := NB131_124.out; have hnc15 := NB124_131.out; have hcz16_0 : w13.cell? ⟨gb131, 0, none⟩ = some (.int .i64 0) := (blk_cell BK131.out 0).trans rfl; have hcz16_1 : w13.cell? ⟨gb131, 1, none⟩ = some (.slice none 0 0) := (blk_cell BK131.out 1).trans rfl; have hfz16_0 := blk_frozen BK131.out 0; have hfz16_1 := blk_frozen BK131.out 1; obtain ⟨Ao17, co17, eo17⟩ := Kd.R_slice HO129.out; subst eo17; have hcz18_0 : w13.cell? ⟨gb124, 0, none⟩ = some (.int .i64 x125000_1) := (blk_cell BK124.out 0).trans rfl; have hcz18_1 : w13.cell? ⟨gb124, 1, none⟩ = some (.slice Ao11 x125001_1.length co11) := (blk_cell BK124.out 1).trans rfl; have hfz18_0 := blk_frozen BK124.out 0; have hfz18_1 := blk_frozen BK124.out 1)))
              (go_roundg k1)
              case measure => have := HK1.out; omega
              case rel => exact ⟨(wrap64 (x11_1 + 1)), (x124000_1), (t126), (t127), (.slice Ao17 t127.length co17), (by first | rfl | (simp; done) | (simp [*]; done)), H', ⟨by have := HK1.out; omega⟩, ⟨by (with_reducible repeat (first | apply Kd.R_alloc | apply Kd.R_drewN | apply Kd.R_drew)); exact Kd.R_mono (Kd.R_far (p := ⟨gb124, 1, none⟩) (Kd.R_far (p := ⟨gb124, 0, none⟩) (Kd.R_far (p := ⟨gb131, 1, none⟩) (Kd.R_far (p := ⟨gb131, 0, none⟩) (Kd.R_types (Kd.R_types HO129.out BK131.out (by decide)) BK124.out (by decide)) (fun _ hk => hk.1.2) (.int .i64 t126)) (fun _ hk => hk.1.2) (.slice Ao17 t127.length co17)) (fun _ hk => hk.2) (.int .i64 t126)) (fun _ hk => hk.2) (.slice Ao17 t127.length co17)) (fun _ hk => trivial)⟩, ⟨by (with_reducible repeat (first | refine blk_drewN ?_ _ | refine blk_drew ?_ | refine blk_alloc ?_ _)); refine blk_far ?_ NB123_124.out _; (with_reducible repeat (first | refine blk_drewN ?_ _ | refine blk_drew ?_ | refine blk_alloc ?_ _)); refine blk_far ?_ NB123_124.out _; (with_reducible repeat (first | refine blk_drewN ?_ _ | refine blk_drew ?_ | refine blk_alloc ?_ _)); refine blk_far ?_ NB123_131.out _; (with_reducible repeat (first | refine blk_drewN ?_ _ | refine blk_drew ?_ | refine blk_alloc ?_ _)); refine blk_far ?_ NB123_131.out _; (with_reducible repeat (first | refine blk_drewN ?_ _ | refine blk_drew ?_ | refine blk_alloc ?_ _)); exact BK123.out⟩, ⟨by (with_reducible repeat (first | refine blk_drewN ?_ _ | refine blk_drew ?_ | refine blk_alloc ?_ _)); refine blk_put (cs := #[.int .i64 t126, .slice Ao11 x125001_1.length co11]) ?_ 1 _ rfl; (with_reducible repeat (first | refine blk_drewN ?_ _ | refine blk_drew ?_ | refine blk_alloc ?_ _)); refine blk_put (cs := #[.int .i64 x125000_1, .slice Ao11 x125001_1.length co11]) ?_ 0 _ rfl; (with_reducible repeat (first | refine blk_drewN ?_ _ | refine blk_drew ?_ | refine blk_alloc ?_ _)); refine blk_far ?_ NB124_131.out _; (with_reducible repeat (first | refine blk_drewN ?_ _ | refine blk_drew ?_ | refine blk_alloc ?_ _)); refine blk_far ?_ NB124_131.out _; (with_reducible repeat (first | refine blk_drewN ?_ _ | refine blk_drew ?_ | refine blk_alloc ?_ _)); exact BK124.out⟩, ⟨by repeat (first | (with_reducible first | exact HB.out | apply below_alloc | apply pw_below_drewN | apply below_drew1 | refine below_set ?_ GE123.out | refine below_set ?_ GE124.out | refine below_set ?_ GE131.out) | exact HB.out)⟩⟩
            · (rw [if_neg c8] at H); (have c8b0 : (t130 == 0) = false := beq_eq_false_iff_ne.mpr c8); (have c8b1 : (t130 != 0) = true := bne_iff_ne.mpr c8); (simp only [Option.some.injEq, Prod.mk.injEq] at H); (obtain ⟨rfl, rfl, rfl⟩ := H); (have p125 : 0 ≤ (x11_1 : Int) := of_decide_eq_true (by first | (with_reducible assumption) | assumption)); (have q125 : x11_1 < (l0.length : Int) := of_decide_eq_true (by first | (with_reducible assumption) | assumption)); (obtain ⟨ad125, e125, hx125_0⟩ := Kd.at_string HR0.out x11_1 p125 q125)
              cases e125
              (replace hx125_0 := (HB.out.cell (World.block_lt_of_cell? w _ hx125_0)).trans hx125_0); (replace p125 := eq_true p125); (replace q125 := eq_true q125); (have hnb19 := NB124_123.out); (have hnc19 := NB123_124.out); (have hcz20_0 : wr.cell? ⟨gb124, 0, none⟩ = some (.int .i64 x125000_1) := (blk_cell BK124.out 0).trans rfl); (have hcz20_1 : wr.cell? ⟨gb124, 1, none⟩ = some (u125001) := (blk_cell BK124.out 1).trans rfl); (have hfz20_0 := blk_frozen BK124.out 0); (have hfz20_1 := blk_frozen BK124.out 1); (obtain ⟨Ao21, co21, eo21⟩ := Kd.R_slice HO_125001.out); (subst eo21)
              (go_wp2_with (first | ((with_reducible refine gate_callee (f := 9) rfl ?_); refine goesL_ (some 18) rfl rfl Try.func9 (by kernel_rfl) rfl #[.agg #[.int .i64 x125000_1, .slice Ao21 x125001_1.length co21], .string (rdOf ByteArray.empty l0 x11_1)] rfl (by (try simp only [List.map_toArray, List.map_cons, List.map_nil]); first | done | rfl | (simp only [List.length_drop, List.length_take]; rfl)) ?_; (with_reducible refine (span_Push.calls x125000_1 _ _ x125001_1 (rdOf ByteArray.empty l0 x11_1) t126 t127 t130 _ ?side1 ?side2 A7.out).mono ?_); (case side1 => repeat (first | exact (Kd.R_reads' HO_125001.out).2.2 | (with_reducible refine Kd.C_alloc ?_ _) | (with_reducible refine Kd.C_drewN ?_ _) | (with_reducible refine Kd.C_drew ?_))); (case side2 => exact (Kd.R_reads' HO_125001.out).2.1); rintro e w22 ⟨v128, rfl, ho0, hb⟩; refine ⟨_, rfl, ?_⟩; have n0_ := Aside0.mk (Kd.R_elder' (by (with_reducible repeat (first | apply Kd.R_alloc | apply Kd.R_drewN | apply Kd.R_drew)); exact HO_125001.out) (Kd.R_base ho0) hb); have n1_ := Aside0.mk (Kd.R_lower (Kd.R_new' ho0 (Kd.R_lt (by (with_reducible repeat (first | apply Kd.R_alloc | apply Kd.R_drewN | apply Kd.R_drew)); exact HO_125001.out))) (below_size (by repeat (first | (with_reducible first | exact HB.out | apply below_alloc | apply pw_below_drewN | apply below_drew1 | refine below_set ?_ GE123.out | refine below_set ?_ GE124.out) | exact HB.out)))); have n2_ := Aside0.mk (blk_below (g := gb123) (o := .cells #[.int .i64 x124000_1, .slice none 0 0] 26 (0, 0)) (by (with_reducible repeat (first | refine blk_drewN ?_ _ | refine blk_drew ?_ | refine blk_alloc ?_ _)); exact BK123.out) hb); have n3_ := Aside0.mk (blk_below (g := gb124) (o := .cells #[.int .i64 x125000_1, .slice Ao21 x125001_1.length co21] 26 (0, 0)) (by (with_reducible repeat (first | refine blk_drewN ?_ _ | refine blk_drew ?_ | refine blk_alloc ?_ _)); exact BK124.out) hb); have n4_ := Aside0.mk (below_step (by repeat (first | (with_reducible first | exact HB.out | apply below_alloc | apply pw_below_drewN | apply below_drew1 | refine below_set ?_ GE123.out | refine below_set ?_ GE124.out) | exact HB.out)) hb); clear HO_125001; clear BK123; clear BK124; clear HB; have HO_125001 := n0_; have HO129 := n1_; have BK123 := n2_; have BK124 := n3_; have HB := n4_; clear n0_ n1_ n2_ n3_ n4_; (try clear hb); (try clear hb2); (try clear hk); (try clear hi); (try clear ho0)) | ((with_reducible refine gate_dst (N := 7) rfl ?_); refine box_event ?hg (N := 7) ?hd (cs := #[.int .i64 0, .slice none 0 0]) (t := 26) ?hr ?_; (case hd => rfl); (case hg => rfl); (case hr => first | (go_simp; done) | (go_simp; rfl) | (go_simp; simp [IntKind.wrap_u32]; done)); intro gb131 hg w23 hbox hb; have n0_ := Aside0.mk (Kd.R_below (by (with_reducible repeat (first | apply Kd.R_alloc | apply Kd.R_drewN | apply Kd.R_drew)); exact HO_125001.out) hb); have n1_ := Aside0.mk (Kd.R_below (by (with_reducible repeat (first | apply Kd.R_alloc | apply Kd.R_drewN | apply Kd.R_drew)); exact HO129.out) hb); have n2_ := Aside0.mk (blk_below (g := gb123) (o := .cells #[.int .i64 x124000_1, .slice none 0 0] 26 (0, 0)) (by (with_reducible repeat (first | refine blk_drewN ?_ _ | refine blk_drew ?_ | refine blk_alloc ?_ _)); exact BK123.out) hb); have n3_ := Aside0.mk (blk_below (g := gb124) (o := .cells #[.int .i64 x125000_1, .slice Ao21 x125001_1.length co21] 26 (0, 0)) (by (with_reducible repeat (first | refine blk_drewN ?_ _ | refine blk_drew ?_ | refine blk_alloc ?_ _)); exact BK124.out) hb); have n4_ := Aside0.mk (below_step (by repeat (first | (with_reducible first | exact HB.out | apply below_alloc | apply pw_below_drewN | apply below_drew1 | refine below_set ?_ GE123.out | refine below_set ?_ GE124.out) | exact HB.out)) hb); have n5_ := Aside0.mk (hbox); have n6_ := Aside0.mk ((by rw [hg]; exact (below_size (by repeat (first | (with_reducible first | exact HB.out | apply below_alloc | apply pw_below_drewN | apply below_drew1 | refine below_set ?_ GE123.out | refine below_set ?_ GE124.out) | exact HB.out))) : w.heap.size ≤ gb131)); have n7_ := Aside0.mk ((by rw [hg]; exact (below_size (by repeat (first | (with_reducible first | exact HB.out | apply below_alloc | apply pw_below_drewN | apply below_drew1 | refine below_set ?_ GE123.out | refine below_set ?_ GE124.out) | exact HB.out))) : w.heap.size ≤ gb131)); have n8_ := Aside0.mk ((by rw [hg]; exact Nat.ne_of_lt (blk_lt (g := gb123) (o := .cells #[.int .i64 x124000_1, .slice none 0 0] 26 (0, 0)) (by (with_reducible repeat (first | refine blk_drewN ?_ _ | refine blk_drew ?_ | refine blk_alloc ?_ _)); exact BK123.out)) : gb123 ≠ gb131)); have n9_ := Aside0.mk ((by rw [hg]; exact Nat.ne_of_gt (blk_lt (g := gb123) (o := .cells #[.int .i64 x124000_1, .slice none 0 0] 26 (0, 0)) (by (with_reducible repeat (first | refine blk_drewN ?_ _ | refine blk_drew ?_ | refine blk_alloc ?_ _)); exact BK123.out)) : gb131 ≠ gb123)); have n10_ := Aside0.mk ((by rw [hg]; exact Nat.ne_of_lt (blk_lt (g := gb124) (o := .cells #[.int .i64 x125000_1, .slice Ao21 x125001_1.length co21] 26 (0, 0)) (by (with_reducible repeat (first | refine blk_drewN ?_ _ | refine blk_drew ?_ | refine blk_alloc ?_ _)); exact BK124.out)) : gb124 ≠ gb131)); have n11_ := Aside0.mk ((by rw [hg]; exact Nat.ne_of_gt (blk_lt (g := gb124) (o := .cells #[.int .i64 x125000_1, .slice Ao21 x125001_1.length co21] 26 (0, 0)) (by (with_reducible repeat (first | refine blk_drewN ?_ _ | refine blk_drew ?_ | refine blk_alloc ?_ _)); exact BK124.out)) : gb131 ≠ gb124)); clear HO_125001; clear HO129; clear BK123; clear BK124; clear HB; have HO_125001 := n0_; have HO129 := n1_; have BK123 := n2_; have BK124 := n3_; have HB := n4_; have BK131 := n5_; have GW131 := n6_; have GE131 := n7_; have NB123_131 := n8_; have NB131_123 := n9_; have NB124_131 := n10_; have NB131_124 := n11_; clear n0_ n1_ n2_ n3_ n4_ n5_ n6_ n7_ n8_ n9_ n10_ n11_; clear hb hbox hg; have hnb24 := NB131_123.out; have hnc24 := NB123_131.out; have hnb25 := NB131_124.out; have hnc25 := NB124_131.out; have hcz26_0 : w23.cell? ⟨gb131, 0, none⟩ = some (.int .i64 0) := (blk_cell BK131.out 0).trans rfl; have hcz26_1 : w23.cell? ⟨gb131, 1, none⟩ = some (.slice none 0 0) := (blk_cell BK131.out 1).trans rfl; have hfz26_0 := blk_frozen BK131.out 0; have hfz26_1 := blk_frozen BK131.out 1; obtain ⟨Ao27, co27, eo27⟩ := Kd.R_slice HO129.out; subst eo27; have hcz28_0 : w23.cell? ⟨gb123, 0, none⟩ = some (.int .i64 x124000_1) := (blk_cell BK123.out 0).trans rfl; have hcz28_1 : w23.cell? ⟨gb123, 1, none⟩ = some (.slice none 0 0) := (blk_cell BK123.out 1).trans rfl; have hfz28_0 := blk_frozen BK123.out 0; have hfz28_1 := blk_frozen BK123.out 1)))
              (refine bodyPost_ret (results_ct rfl _ _ gb123 26 #[.int .i64 0, .slice none 0 0] (0, 0) _ rfl (by (with_reducible repeat (first | refine blk_drewN ?_ _ | refine blk_drew ?_ | refine blk_alloc ?_ _)); refine blk_put (cs := #[.int .i64 0, .slice none 0 0]) ?_ 1 _ rfl; (with_reducible repeat (first | refine blk_drewN ?_ _ | refine blk_drew ?_ | refine blk_alloc ?_ _)); refine blk_put (cs := #[.int .i64 x124000_1, .slice none 0 0]) ?_ 0 _ rfl; (with_reducible repeat (first | refine blk_drewN ?_ _ | refine blk_drew ?_ | refine blk_alloc ?_ _)); refine blk_far ?_ NB123_131.out _; (with_reducible repeat (first | refine blk_drewN ?_ _ | refine blk_drew ?_ | refine blk_alloc ?_ _)); refine blk_far ?_ NB123_131.out _; (with_reducible repeat (first | refine blk_drewN ?_ _ | refine blk_drew ?_ | refine blk_alloc ?_ _)); exact BK123.out) Try.underlying26 rfl (by kernel_rfl)) rfl ?_); (exact ⟨_, by first | rfl | (simp [errW_none, errW_some] <;> rfl) | (simp [*, errW_none, errW_some] <;> rfl), by first | exact Kd.R_nil _ _ _ _ _ | exact Kd.N_nil _ _ _ _ _ | exact Kd.V_nil _ _ _ _ _ | exact Kd.Q_nil _ _ _ _ _ | exact Kd.S_nil _ _ _ _ _, by repeat (first | (with_reducible first | exact HB.out | apply below_alloc | apply pw_below_drewN | apply below_drew1 | refine below_set ?_ GE123.out | refine below_set ?_ GE124.out | refine below_set ?_ GE131.out) | exact HB.out)⟩)
          focus ((rw [if_neg c6] at H); (exact absurd H (by simp)))
        focus ((rw [if_neg c5] at H); (exact absurd H (by simp)))
      focus ((rw [if_neg c4] at H); (have c4b0 : decide (x11_1 < (l0.length : Int)) = false := decide_eq_false c4); (clear c4); (simp only [Option.some.injEq, Prod.mk.injEq] at H); (obtain ⟨rfl, rfl, rfl⟩ := H); (have hnb29 := NB124_123.out); (have hnc29 := NB123_124.out); (have hcz30_0 : wr.cell? ⟨gb124, 0, none⟩ = some (.int .i64 x125000_1) := (blk_cell BK124.out 0).trans rfl); (have hcz30_1 : wr.cell? ⟨gb124, 1, none⟩ = some (u125001) := (blk_cell BK124.out 1).trans rfl); (have hfz30_0 := blk_frozen BK124.out 0); (have hfz30_1 := blk_frozen BK124.out 1); (have hcz31_0 : wr.cell? ⟨gb123, 0, none⟩ = some (.int .i64 x124000_1) := (blk_cell BK123.out 0).trans rfl); (have hcz31_1 : wr.cell? ⟨gb123, 1, none⟩ = some (.slice none 0 0) := (blk_cell BK123.out 1).trans rfl); (have hfz31_0 := blk_frozen BK123.out 0); (have hfz31_1 := blk_frozen BK123.out 1); (obtain ⟨Ao32, co32, eo32⟩ := Kd.R_slice HO_125001.out); (subst eo32); (go_wp2); (refine bodyPost_ret (results_ct rfl _ _ gb123 26 #[.int .i64 x125000_1, .slice Ao32 x125001_1.length co32] (0, 0) _ rfl (by (with_reducible repeat (first | refine blk_drewN ?_ _ | refine blk_drew ?_ | refine blk_alloc ?_ _)); refine blk_put (cs := #[.int .i64 x125000_1, .slice none 0 0]) ?_ 1 _ rfl; (with_reducible repeat (first | refine blk_drewN ?_ _ | refine blk_drew ?_ | refine blk_alloc ?_ _)); refine blk_put (cs := #[.int .i64 x124000_1, .slice none 0 0]) ?_ 0 _ rfl; (with_reducible repeat (first | refine blk_drewN ?_ _ | refine blk_drew ?_ | refine blk_alloc ?_ _)); exact BK123.out) Try.underlying26 rfl (by kernel_rfl)) rfl ?_); (exact ⟨_, by first | rfl | (simp [errW_none, errW_some] <;> rfl) | (simp [*, errW_none, errW_some] <;> rfl), by (with_reducible repeat (first | apply Kd.R_alloc | apply Kd.R_drewN | apply Kd.R_drew)); exact Kd.R_mono (Kd.R_far (p := ⟨gb123, 1, none⟩) (Kd.R_far (p := ⟨gb123, 0, none⟩) (Kd.R_types HO_125001.out BK123.out (by decide)) (fun _ hk => hk.2) (.int .i64 x125000_1)) (fun _ hk => hk.2) (.slice Ao32 x125001_1.length co32)) (fun _ hk => trivial), by repeat (first | (with_reducible first | exact HB.out | apply below_alloc | apply pw_below_drewN | apply below_drew1 | refine below_set ?_ GE123.out | refine below_set ?_ GE124.out) | exact HB.out)⟩))
end Go.Proofs.Ytoihdghoopgdfaa.F
end
