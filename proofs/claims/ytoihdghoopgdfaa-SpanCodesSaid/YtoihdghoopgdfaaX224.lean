-- JOINED BY A PROGRAM OF THIS PLACE (wip/tools/pack.py) out of: SpPush
import Derived.WalkMore
import Derived.ScopeJumps
import Derived.Test.YtoihdghoopgdfaaX25
import Derived.Test.YtoihdghoopgdfaaX29
import Derived.Test.YtoihdghoopgdfaaX214
import Derived.Test.YtoihdghoopgdfaaX222
import Derived.Test.YtoihdghoopgdfaaX223
section
/-
  span.Push: its walk.
-/
namespace Go.Proofs.Ytoihdghoopgdfaa
open Go.RowKit Go.Proofs.YtoihdghoopgdfaaW.PrintWords Go.Proofs.YtoihdghoopgdfaaW.PrintLast Go.Proofs.YtoihdghoopgdfaaW.PrintMore
set_option linter.unusedVariables false
set_option linter.unusedSimpArgs false
theorem bcell {W w1 : World} (hb : Below W.heap.size W w1) : (∀ b o, b < W.heap.size → w1.cell? ⟨b, o, none⟩ = W.cell? ⟨b, o, none⟩) ∧ (∀ b o, b < W.heap.size → w1.frozen? ⟨b, o, none⟩ = W.frozen? ⟨b, o, none⟩) :=
  ⟨fun b o h => hb.cell (p := ⟨b, o, none⟩) h, fun b o h => hb.frozen (p := ⟨b, o, none⟩) h⟩
theorem infoSp : (Try.prog.info? 26).map (·.size) = some 2 := by kernel_rfl
theorem results_span {fn : Func} {tmps : Array Value} {w : World} (p q : Tmp) (hf : fn.results = #[.cell p 26, .tmp q]) (g : Nat) (x y : Value) (hp : tmps.getD p undef = .pointer (some ⟨g, 0, none⟩)) (hg : w.heap[g]? = some (.cells #[x, y] 26 (0, 0))) :
    (results fn tmps).run Try.prog w = .ok (.tuple #[.agg #[x, y], tmps.getD q undef]) w :=
  results_list (rs := [.cell p 26, .tmp q]) hf (by simp) (.cell g 26 #[x, y] (0, 0) _ hp hg Try.underlying26 rfl infoSp (.tmp .nil))
theorem set_two {w : World} {g T : Nat} {p q : Value} (h : w.heap[g]? = some (.cells #[p, q] T (0, 0))) (x y : Value) : ((w.setCell ⟨g, 0, none⟩ x).setCell ⟨g, 1, none⟩ y).heap[g]? = some (.cells #[x, y] T (0, 0)) := by
  have h1 := blk_set h 0 x
  have h2 := blk_set h1 1 y
  simpa using h2
/-- the two blocks that the call lays first, and what lay below -/
theorem two_blocks {w w1 : World} {o1 o2 : Obj} (hb : Below ((w.alloc o1).alloc o2).heap.size ((w.alloc o1).alloc o2) w1) : w1.heap[w.heap.size]? = some o1 ∧ w1.heap[w.heap.size + 1]? = some o2 ∧ Below w.heap.size w w1 ∧ w.heap.size + 2 ≤ w1.heap.size := by
  have hs : ((w.alloc o1).alloc o2).heap.size = w.heap.size + 2 := by simp
  refine ⟨?_, ?_, below_then (((Below.refl _ _).alloc (Nat.le_refl _) o1).alloc (by simp) o2) (by omega) hb, by rw [← hs]; exact hb.size⟩
  · rw [hb.block _ (by omega), heap_alloc_old _ _ (by simp)]
    exact blk_new w o1
  · rw [hb.block _ (by omega)]
    have := blk_new (w.alloc o1) o2
    rwa [show (w.alloc o1).heap.size = w.heap.size + 1 by simp] at this
def push_T : Bool × List (List Nat × List Nat) := (true, [([], []), ([], []), ([1], [1]), ([0, 2], [0, 2]), ([], []), ([], []), ([5], [5]), ([4, 6], [4, 6]), ([7], [7]), ([], []), ([], []), ([10], [10]), ([9, 11], [9, 11]), ([12], [12]), ([8, 13], [8, 13]), ([14], [14]), ([3, 15, 14], [3, 15]), ([16, 16, 0, 1, 2, 3, 4, 5, 6, 7, 8, 9, 10, 11, 12, 13, 14, 15, 16], [0, 4, 9, 16])])
def push_B : List Nat := [0, 0, 2, 7, 0, 0, 32, 112, 240, 0, 0, 1024, 3584, 7680, 16368, 32752, 65535, 131071]
theorem push_tab : rtab .any (opsOf Try.f9 7) = push_T := by kernel_rfl
theorem push_bits : waitsOk push_T.2 push_B = true := by kernel_rfl
def span_Push.f (a0_0 : Int) (l0_1 : List ByteArray) (a1 : ByteArray) : Option (Int × List ByteArray × Int) := some (Sp.pushed a0_0 l0_1 a1)
set_option maxHeartbeats 4000000 in
set_option maxRecDepth 100000 in
theorem push_err (a : Int) (A : Option Addr) (c : Nat) (l : List ByteArray) (leaf : ByteArray) (w : World) (hr : RdT w A l) (hc : l.length ≤ c) (h : ¬ (spanOk a l = true ∧ a ≠ 1099511627776 ∧ leaf.size = 32)) :
    Calls Try.prog 9 #[.agg #[.int .i64 a, .slice A l.length c], .string leaf] w fun e w' => e = .returned (.tuple #[.agg #[.int .i64 0, .slice none 0 0], .int .i64 1]) ∧ Below w.heap.size w w' := by
  have HR := Lib.hid hr
  clear hr
  by_cases h1 : spanOk a l = true
  · have hck := Lib.hid (show span_Check.f a l = some 0 from congrArg some (if_pos h1))
    by_cases h2 : a = 1099511627776
    · have e2 : (a == 1099511627776) = true := by simpa using h2
      clear h h1 h2
      go_enter Try.func9, Try.ntmps9
      go_wp2
      go_step3
      go_wp2_with fail
      refine (span_Check.calls a A c l 0 _ (Kd.C_alloc (Kd.C_alloc HR.out _) _) hc hck.out).mono ?_
      rintro e w1 ⟨rfl, hb⟩
      obtain ⟨hcl, hfz⟩ := bcell hb
      have HB := Lib.hid (two_blocks hb)
      clear hb
      go_wp2
      rw [Exit.noGoto_ret]
      exact bodyPost_ret (results_span 4 5 rfl _ _ _ rfl (set_two HB.out.2.1 _ _)) rfl ⟨rfl, below_setCell (below_setCell HB.out.2.2.1 (by omega) _ _) (by omega) _ _⟩
    · have e2 : (a == 1099511627776) = false := by simpa using h2
      have h3 : leaf.size ≠ 32 := fun e => h ⟨h1, h2, e⟩
      have HI := Lib.hid (show F.span_isHash.f leaf = some false by unfold F.span_isHash.f; simp; omega)
      clear h h1 h2 h3
      go_enter Try.func9, Try.ntmps9
      go_wp2
      go_step3
      go_wp2_with fail
      refine (span_Check.calls a A c l 0 _ (Kd.C_alloc (Kd.C_alloc HR.out _) _) hc hck.out).mono ?_
      rintro e w1 ⟨rfl, hb⟩
      obtain ⟨hcl, hfz⟩ := bcell hb
      have HB := Lib.hid (two_blocks hb)
      clear hb
      go_wp2_with fail
      refine (F.span_isHash.calls leaf false w1 HI.out).mono ?_
      rintro e w2 ⟨rfl, hd⟩
      obtain ⟨n, rfl⟩ := hd.out
      go_wp2
      rw [Exit.noGoto_ret]
      exact bodyPost_ret (results_span 4 5 rfl _ _ _ rfl (set_two (w := w1.drewN n) HB.out.2.1 _ _)) rfl ⟨rfl, below_setCell (below_setCell (pw_below_drewN HB.out.2.2.1 n) (by omega) _ _) (by omega) _ _⟩
  · have hck := Lib.hid (show span_Check.f a l = some 1 from congrArg some (if_neg h1))
    clear h h1
    go_enter Try.func9, Try.ntmps9
    go_wp2
    go_step3
    go_wp2_with fail
    refine (span_Check.calls a A c l 1 _ (Kd.C_alloc (Kd.C_alloc HR.out _) _) hc hck.out).mono ?_
    rintro e w1 ⟨rfl, hb⟩
    obtain ⟨hcl, hfz⟩ := bcell hb
    have HB := Lib.hid (two_blocks hb)
    clear hb
    go_wp2
    rw [Exit.noGoto_ret]
    exact bodyPost_ret (results_span 4 5 rfl _ _ _ rfl (set_two HB.out.2.1 _ _)) rfl ⟨rfl, below_setCell (below_setCell HB.out.2.2.1 (by omega) _ _) (by omega) _ _⟩
-- WALK
set_option maxHeartbeats 16000000 in
set_option maxRecDepth 100000 in
theorem push_ok (n0 : Nat) (A : Option Addr) (c : Nat) (l : List ByteArray) (leaf : ByteArray) (r : List ByteArray) (w : World) (hr : RdT w A l) (hc : l.length ≤ c) (hok : spanOk (n0 : Int) l = true) (hm : (n0 : Int) ≠ 1099511627776) (h32 : leaf.size = 32) (hres : r = Sp.carry 64 n0 (l ++ [leaf])) :
    Calls Try.prog 9 #[.agg #[.int .i64 (n0 : Int), .slice A l.length c], .string leaf] w fun e w' => ∃ v1_ : Value, e = .returned (.tuple #[.agg #[.int .i64 ((n0 : Int) + 1), v1_], .int .i64 0]) ∧ Kd.R Kd.string 9 w' w.heap.size (fun _ => True) v1_ r ∧ Below w.heap.size w w' := by
  have hat0 := Sp.At.start hok h32
  rw [Int.toNat_natCast, ← hres] at hat0
  have hlen : l.length ≤ 64 := by have := hat0.bound; simp at this; omega
  have hamax := ((spanOk_iff (n0 : Int) l).1 hok).2.1
  have HAT0 : Hid (Sp.At r n0 (l ++ [leaf])) := Lib.hid hat0
  have HR := Lib.hid hr
  have hck := Lib.hid (show span_Check.f (n0 : Int) l = some 0 from congrArg some (if_pos hok))
  have HI := Lib.hid (show F.span_isHash.f leaf = some true by unfold F.span_isHash.f; simp; omega)
  have e2 : ((n0 : Int) == 1099511627776) = false := by simpa using hm
  have HAP := Lib.hid (show 0 ≤ (n0 : Int) ∧ (n0 : Int) ≤ 1099511627776 from ⟨((spanOk_iff (n0 : Int) l).1 hok).1, hamax⟩)
  clear hat0 hok hm h32 hres hr hamax
  go_enter Try.func9, Try.ntmps9
  go_wp2
  refine wp_scope_jumps 0 (fun a' w' => ∃ (n : Nat) (q : List ByteArray) (Al : Option Addr) (cl : Nat) (u8 u9 u10 u11 u12 u13 u14 u15 u16 u17 u18 u19 u20 u21 u22 u23 u24 u25 u26 u27 u28 u29 u30 u31 u32 u33 u34 u35 u36 u37 u38 u39 u40 u41 u42 u43 u44 u45 u46 u47 u48 u49 u50 u51 u52 u53 u54 u55 u56 u57 u58 u59 : Value), a' = { tmps := #[.agg #[.int .i64 (n0 : Int), .slice A l.length c], .string leaf, .pointer (some ⟨w.heap.size, 0, none⟩), undef, .pointer (some ⟨w.heap.size + 1, 0, none⟩), .int .i64 0, .slice Al q.length cl, .int .i64 n, u8, u9, u10, u11, u12, u13, u14, u15, u16, u17, u18, u19, u20, u21, u22, u23, u24, u25, u26, u27, u28, u29, u30, u31, u32, u33, u34, u35, u36, u37, u38, u39, u40, u41, u42, u43, u44, u45, u46, u47, u48, u49, u50, u51, u52, u53, u54, u55, u56, u57, u58, u59], defers := [] } ∧ Sp.At r n q ∧ OwnT w' w.heap.size (.slice Al q.length cl) q ∧ w'.heap[w.heap.size]? = some (.cells #[.int .i64 (n0 : Int), .slice A l.length c] 26 (0, 0)) ∧ w'.heap[w.heap.size + 1]? = some (.cells #[.int .i64 0, .slice none 0 0] 26 (0, 0)) ∧ Below w.heap.size w w') (fun a' _ => (intOf (a'.tmps.getD 7 undef)).toNat) rfl ?_ ?_
  · go_wp2_with fail
    refine (span_Check.calls (n0 : Int) A c l 0 _ (Kd.C_alloc (Kd.C_alloc HR.out _) _) hc hck.out).mono ?_
    rintro e w1 ⟨rfl, hb⟩
    obtain ⟨hcl, hfz⟩ := bcell hb
    have HB1 := Lib.hid (two_blocks hb)
    clear hb
    go_wp2_with fail
    refine (F.span_isHash.calls leaf true w1 HI.out).mono ?_
    rintro e w2 ⟨rfl, hd⟩
    obtain ⟨k, rfl⟩ := hd.out
    clear hd
    go_wp2_with fail
    refine (cloneT_calls A c l (w1.drewN k) (Kd.C_drewN (Kd.C_below HR.out HB1.out.2.2.1) _) (by omega)).mono ?_
    rintro e w3 ⟨v3, rfl, ho3, hb3⟩
    have hb0 := pw_below_drewN HB1.out.2.2.1 k
    have HO3 := Lib.hid (Kd.R_lower ho3 hb0.size)
    have HB3 := Lib.hid (below_then hb0 hb0.size hb3)
    have HG3 : Hid (w3.heap[w.heap.size]? = _) := Lib.hid ((hb3.block _ (by have := HB1.out.2.2.2; simp; omega)).trans HB1.out.1)
    have HG4 : Hid (w3.heap[w.heap.size + 1]? = _) := Lib.hid ((hb3.block _ (by have := HB1.out.2.2.2; simp; omega)).trans HB1.out.2.1)
    clear ho3 hb3 hb0 hcl hfz
    go_wp2_with (first | (at_builtin; refine appT_one (w0 := w) w.heap.size rfl (.tmp 25) (.tmp 27) rfl v3 l leaf rfl rfl HO3.out HB3.out HB3.out.size (by omega) ?_; intro v5 wx ho5 hb5 hg5 _; obtain ⟨q, hq⟩ : ∃ q, q = l ++ [leaf] := ⟨_, rfl⟩; rw [← hq] at ho5; obtain ⟨Al, cl, rfl⟩ := Kd.R_slice ho5; have hat : Sp.At r n0 q := (by rw [hq]; exact HAT0.out); have HAT := Lib.hid hat; have HO := Lib.hid ho5; have HB := Lib.hid hb5; have HG0 : Hid (wx.heap[w.heap.size]? = _) := Lib.hid (blk_grown HG3.out hg5 (Kd.R_ne HO3.out HG3.out (by decide))); have HG1 : Hid (wx.heap[w.heap.size + 1]? = _) := Lib.hid (blk_grown HG4.out hg5 (Kd.R_ne HO3.out HG4.out (by decide))); have hc0 : wx.cell? ⟨w.heap.size, 0, none⟩ = some (.int .i64 (n0 : Int)) := (by rw [blk_cell HG0.out]; rfl); clear hq hat ho5 hb5 hg5) | fail)
    go_step3
    have hat := HAT.out
    have ho := HO.out
    have hb := HB.out
    have hg0 := HG0.out
    have hg1 := HG1.out
    clear HAT HO HB HG0 HG1 hc0
    clear HAT0 HR HB1 HO3 HB3 HG3 HG4
    obtain ⟨hql, hnl⟩ := hat.bound
    have HAT := Lib.hid hat
    have HO := Lib.hid ho
    have HG0 := Lib.hid hg0
    have HG1 := Lib.hid hg1
    have HB := Lib.hid hb
    have hc0 : wx.cell? ⟨w.heap.size, 0, none⟩ = some (.int .i64 (n0 : Int)) := by rw [blk_cell hg0]; rfl
    have hw := hb.size
    clear hat ho hg0 hg1 hb
    by_cases hodd : n0 % 2 = 1
    · have hand : ((Go.bits .and .i64 (n0 : Int) 1) == 1) = true := by rw [Sp.and1 n0 (by omega), hodd]; rfl
      obtain ⟨h2, hx, hy⟩ := HAT.out.two hodd
      have HNX := Lib.hid (HAT.out.next hodd)
      obtain ⟨g, cap, e, hgb, hgl, _⟩ := Kd.R_form HO.out (by omega)
      injection e with e1 e2 e3
      subst e1
      clear e2 e3
      obtain ⟨m2, hm2⟩ : ∃ m, m = q.length - 2 := ⟨_, rfl⟩
      obtain ⟨m1, hm1⟩ : ∃ m, m = q.length - 1 := ⟨_, rfl⟩
      have cx := (Kd.R_celln ByteArray.empty HO.out (m2 : Int) (by omega) (by omega)).1
      have cy := (Kd.R_celln ByteArray.empty HO.out (m1 : Int) (by omega) (by omega)).1
      simp only [rdOf, Int.toNat_natCast] at cx cy
      rw [← hm2] at hx
      rw [← hm1] at hy
      obtain ⟨x, hxx⟩ : ∃ x, x = q.getD m2 ByteArray.empty := ⟨_, rfl⟩
      obtain ⟨y, hyy⟩ : ∃ y, y = q.getD m1 ByteArray.empty := ⟨_, rfl⟩
      rw [← hxx] at cx hx
      rw [← hyy] at cy hy
      have HND := Lib.hid (F.node_some x y (by omega))
      have HJ := Lib.hid (show Sp.join2 q = q.take m2 ++ [Hs.node x y] by rw [Sp.join2, ← hm2, ← hm1, ← hxx, ← hyy])
      have w2 : IntKind.i64.wrap ((q.length : Int) - 2) = (m2 : Int) := by rw [show ((q.length : Int) - 2) = (m2 : Int) by omega]; exact IntWalk.i64_in _ (by omega)
      have w1 : IntKind.i64.wrap ((q.length : Int) - 1) = (m1 : Int) := by rw [show ((q.length : Int) - 1) = (m1 : Int) by omega]; exact IntWalk.i64_in _ (by omega)
      have i0 : (0 : Int) ≤ (m2 : Int) := by omega
      have i1 : (m2 : Int) < (q.length : Int) := by omega
      have i2 : (0 : Int) ≤ (m1 : Int) := by omega
      have i3 : (m1 : Int) < (q.length : Int) := by omega
      obtain ⟨i9, hi9, _, _, _⟩ := info_parts infoT
      have hcut : ∀ W : World, (Instr.slice 22 (.slice (some ⟨g, 0, none⟩) q.length cl) none (some (.int .i64 (m2 : Int))) none).run Try.prog W = .ok (.slice (some ⟨g, 0, none⟩) m2 cl) W := by
        intro W
        have := cut_to (P := Try.prog) 22 9 .i64 Try.underlying22 hi9 (some ⟨g, 0, none⟩) q.length cl (m2 : Int) (by omega) (by omega) (Kd.R_reads' HO.out).2.1 W
        rwa [Int.toNat_natCast] at this
      have i4 : m2 < q.length := by omega
      have i5 : m1 < q.length := by omega
      have HM := Lib.hid (show m2 + 1 ≤ 66 by omega)
      have HML := Lib.hid (show m2 ≤ q.length by omega)
      have HXY := Lib.hid hxx
      have hh := Lib.hid hodd
      clear hm2 hm1 hx hy hxx hyy hodd h2
      go_wp2
      refine start_ (n := 18) (S := fun w' => w'.cell? ⟨g, m2, none⟩ = some (.string x) ∧ w'.cell? ⟨g, m1, none⟩ = some (.string y)) (ds := [16]) #[false, false, false, false, false, false, false, false, false, false, false, false, false, false, false, false, false, false] (by kernel_rfl) rfl rfl ⟨by rw [World.cell?_drew]; exact cx, by rw [World.cell?_drew]; exact cy⟩ (fun hHeld => ?_); refine with_tabW push_tab push_bits (fun HT_ HW_ => ?_)
      clear cx cy
      have HOD := Lib.hid (Kd.R_drew HO.out)
      have HG0D : Hid (wx.drew.heap[w.heap.size]? = _) := Lib.hid HG0.out
      have HG1D : Hid (wx.drew.heap[w.heap.size + 1]? = _) := Lib.hid HG1.out
      have HBD := Lib.hid (below_drew HB.out)
      clear hc0 HO HG0 HG1 HB
      obtain ⟨V, hV⟩ : ∃ V, V = wx.drew := ⟨_, rfl⟩
      rw [← hV] at hHeld HOD HG0D HG1D HBD ⊢
      clear hV
      refine pure_ (i := 0) (N := some 36) (v := ?_) (a' := ?_) #[true, false, false, false, false, false, false, false, false, false, false, false, false, false, false, false, false, false] rfl rfl (any_of HT_.out (by kernel_rfl)) (fun _ _ _ h => h) (Or.inl ⟨by rfl, ?_⟩) ?_ ?_
      rotate_left
      · intro w'
        go_simp
        with_reducible rfl
      rotate_left
      · simp only [Act.put, List.setIfInBounds_toArray, List.set_cons_zero, List.set_cons_succ, i64_w, i32_w]
        rfl
      refine pure_ (i := 1) (N := some 37) (v := ?_) (a' := ?_) #[true, true, false, false, false, false, false, false, false, false, false, false, false, false, false, false, false, false] rfl rfl (any_of HT_.out (by kernel_rfl)) (fun _ _ _ h => h) (Or.inl ⟨by rfl, ?_⟩) ?_ ?_
      rotate_left
      · intro w'
        go_simp
        with_reducible rfl
      rotate_left
      · simp only [Act.put, List.setIfInBounds_toArray, List.set_cons_zero, List.set_cons_succ, i64_w, i32_w]
        rfl
      refine pure_ (i := 2) (N := some 38) (v := ?_) (a' := ?_) #[true, true, true, false, false, false, false, false, false, false, false, false, false, false, false, false, false, false] rfl rfl (any_of HT_.out (by kernel_rfl)) (fun _ _ _ h => h) (Or.inl ⟨by rfl, ?_⟩) ?_ ?_
      rotate_left
      · intro w'
        go_simp
        with_reducible rfl
      rotate_left
      · simp only [Act.put, List.setIfInBounds_toArray, List.set_cons_zero, List.set_cons_succ, i64_w, i32_w]
        rfl
      refine pure_ (i := 3) (N := some 39) (v := ?_) (a' := ?_) #[true, true, true, true, false, false, false, false, false, false, false, false, false, false, false, false, false, false] rfl rfl (any_of HT_.out (by kernel_rfl)) (fun _ _ _ h => h) (Or.inl ⟨by rfl, ?_⟩) ?_ ?_
      rotate_left
      · intro w'
        go_simp
        with_reducible rfl
      rotate_left
      · simp only [Act.put, List.setIfInBounds_toArray, List.set_cons_zero, List.set_cons_succ, i64_w, i32_w]
        rfl
      refine pure_ (i := 4) (N := some 40) (v := ?_) (a' := ?_) #[true, true, true, true, true, false, false, false, false, false, false, false, false, false, false, false, false, false] rfl rfl (any_of HT_.out (by kernel_rfl)) (fun _ _ _ h => h) (Or.inl ⟨by rfl, ?_⟩) ?_ ?_
      rotate_left
      · intro w'
        go_simp
        with_reducible rfl
      rotate_left
      · simp only [Act.put, List.setIfInBounds_toArray, List.set_cons_zero, List.set_cons_succ, i64_w, i32_w]
        rfl
      refine pure_ (i := 5) (N := some 41) (v := ?_) (a' := ?_) #[true, true, true, true, true, true, false, false, false, false, false, false, false, false, false, false, false, false] rfl rfl (any_of HT_.out (by kernel_rfl)) (fun _ _ _ h => h) (Or.inl ⟨by rfl, ?_⟩) ?_ ?_
      rotate_left
      · intro w'
        go_simp
        with_reducible rfl
      rotate_left
      · simp only [Act.put, List.setIfInBounds_toArray, List.set_cons_zero, List.set_cons_succ, i64_w, i32_w]
        rfl
      refine pure_ (i := 6) (N := some 42) (v := ?_) (a' := ?_) #[true, true, true, true, true, true, true, false, false, false, false, false, false, false, false, false, false, false] rfl rfl (any_of HT_.out (by kernel_rfl)) (fun _ _ _ h => h) (Or.inl ⟨by rfl, ?_⟩) ?_ ?_
      rotate_left
      · intro w'
        go_simp
        with_reducible rfl
      rotate_left
      · simp only [Act.put, List.setIfInBounds_toArray, List.set_cons_zero, List.set_cons_succ, i64_w, i32_w]
        rfl
      refine pure_ (i := 7) (N := some 43) (v := ?_) (a' := ?_) #[true, true, true, true, true, true, true, true, false, false, false, false, false, false, false, false, false, false] rfl rfl (any_of HT_.out (by kernel_rfl)) (fun _ _ _ h => h) (Or.inl ⟨by rfl, ?_⟩) ?_ ?_
      rotate_left
      · intro w'
        go_simp
        with_reducible rfl
      rotate_left
      · simp only [Act.put, List.setIfInBounds_toArray, List.set_cons_zero, List.set_cons_succ, i64_w, i32_w]
        rfl
      refine take_ (i := 8) (N := some 44) (v := ?_) (a' := ?_) #[true, true, true, true, true, true, true, true, true, false, false, false, false, false, false, false, false, false] rfl rfl (take_ofW HT_.out HW_.out (by kernel_rfl)) (fun _ _ _ h => h) (Or.inl ⟨by rfl, ?_⟩) hHeld ?_ ?_
      rotate_left
      · rintro w' ⟨s0, s1⟩
        go_simp
        with_reducible rfl
      rotate_left
      · simp only [Act.put, List.setIfInBounds_toArray, List.set_cons_zero, List.set_cons_succ, i64_w, i32_w]
        rfl
      refine pure_ (i := 9) (N := some 45) (v := ?_) (a' := ?_) #[true, true, true, true, true, true, true, true, true, true, false, false, false, false, false, false, false, false] rfl rfl (any_of HT_.out (by kernel_rfl)) (fun _ _ _ h => h) (Or.inl ⟨by rfl, ?_⟩) ?_ ?_
      rotate_left
      · intro w'
        go_simp
        with_reducible rfl
      rotate_left
      · simp only [Act.put, List.setIfInBounds_toArray, List.set_cons_zero, List.set_cons_succ, i64_w, i32_w]
        rfl
      refine pure_ (i := 10) (N := some 46) (v := ?_) (a' := ?_) #[true, true, true, true, true, true, true, true, true, true, true, false, false, false, false, false, false, false] rfl rfl (any_of HT_.out (by kernel_rfl)) (fun _ _ _ h => h) (Or.inl ⟨by rfl, ?_⟩) ?_ ?_
      rotate_left
      · intro w'
        go_simp
        with_reducible rfl
      rotate_left
      · simp only [Act.put, List.setIfInBounds_toArray, List.set_cons_zero, List.set_cons_succ, i64_w, i32_w]
        rfl
      refine pure_ (i := 11) (N := some 47) (v := ?_) (a' := ?_) #[true, true, true, true, true, true, true, true, true, true, true, true, false, false, false, false, false, false] rfl rfl (any_of HT_.out (by kernel_rfl)) (fun _ _ _ h => h) (Or.inl ⟨by rfl, ?_⟩) ?_ ?_
      rotate_left
      · intro w'
        go_simp
        with_reducible rfl
      rotate_left
      · simp only [Act.put, List.setIfInBounds_toArray, List.set_cons_zero, List.set_cons_succ, i64_w, i32_w]
        rfl
      refine pure_ (i := 12) (N := some 48) (v := ?_) (a' := ?_) #[true, true, true, true, true, true, true, true, true, true, true, true, true, false, false, false, false, false] rfl rfl (any_of HT_.out (by kernel_rfl)) (fun _ _ _ h => h) (Or.inl ⟨by rfl, ?_⟩) ?_ ?_
      rotate_left
      · intro w'
        go_simp
        with_reducible rfl
      rotate_left
      · simp only [Act.put, List.setIfInBounds_toArray, List.set_cons_zero, List.set_cons_succ, i64_w, i32_w]
        rfl
      refine take_ (i := 13) (N := some 49) (v := ?_) (a' := ?_) #[true, true, true, true, true, true, true, true, true, true, true, true, true, true, false, false, false, false] rfl rfl (take_ofW HT_.out HW_.out (by kernel_rfl)) (fun _ _ _ h => h) (Or.inl ⟨by rfl, ?_⟩) hHeld ?_ ?_
      rotate_left
      · rintro w' ⟨s0, s1⟩
        go_simp
        with_reducible rfl
      rotate_left
      · simp only [Act.put, List.setIfInBounds_toArray, List.set_cons_zero, List.set_cons_succ, i64_w, i32_w]
        rfl
      refine one_ (i := 14) (N := some 50) #[true, true, true, true, true, true, true, true, true, true, true, true, true, true, true, false, false, false] rfl rfl (one_of HT_.out (by kernel_rfl)) (by decide) (fun K hK => ?_)
      refine goes_ Try.func31 (by kernel_rfl) rfl #[.string x, .string y] (by rfl) rfl rfl (by simp only [List.map_toArray, List.map_cons, List.map_nil]; rfl) ?_
      refine (F.hash_Node.calls x y (Hs.node x y) V HND.out).mono ?_
      rintro e w4 ⟨rfl, hb4⟩
      refine ⟨_, rfl, ?_⟩
      refine hK.out _ _ ⟨pw_cell_below hb4 hHeld.1, pw_cell_below hb4 hHeld.2⟩ (fun hHeld => ?_)
      have HO4 := Lib.hid (ownT_below HOD.out hb4)
      have HG4 : Hid (w4.heap[w.heap.size]? = _) := Lib.hid ((hb4.block _ (blk_lt HG0D.out)).trans HG0D.out)
      have HG5 : Hid (w4.heap[w.heap.size + 1]? = _) := Lib.hid ((hb4.block _ (blk_lt HG1D.out)).trans HG1D.out)
      have HB4 := Lib.hid (below_then HBD.out HBD.out.size hb4)
      clear hb4 HOD HG0D HG1D HBD
      clear hK K
      refine norm_ (a' := ?_) ?_ ?_
      rotate_left
      · show Act.put _ (some 50) _ = _
        simp only [Act.put, List.setIfInBounds_toArray, List.set_cons_zero, List.set_cons_succ, i64_w, i32_w]
        rfl
      refine one_ (i := 15) (N := some 51) #[true, true, true, true, true, true, true, true, true, true, true, true, true, true, true, true, false, false] rfl rfl (one_of HT_.out (by kernel_rfl)) (by decide) (fun K hK => ?_)
      refine boxT_step (by rfl) rfl _ rfl (Hs.node x y) rfl ?_
      refine hK.out _ _ ⟨pw_cell_below ((Below.refl _ _).alloc (Nat.le_refl _) _) hHeld.1, pw_cell_below ((Below.refl _ _).alloc (Nat.le_refl _) _) hHeld.2⟩ (fun hHeld => ?_)
      clear hK K
      refine norm_ (a' := ?_) ?_ ?_
      rotate_left
      · show Act.put _ (some 51) _ = _
        simp only [Act.put, List.setIfInBounds_toArray, List.set_cons_zero, List.set_cons_succ, i64_w, i32_w]
        rfl
      refine last_ (i := 16) (N := some 52) #[true, true, true, true, true, true, true, true, true, true, true, true, true, true, true, true, true, false] rfl rfl (one_of HT_.out (by kernel_rfl)) (by decide) (fun K hK => ?_)
      refine appT_one_step (w0 := w) w.heap.size (by rfl) rfl (.tmp 39) (.tmp 51) rfl (.slice (some ⟨g, 0, none⟩) m2 cl) (q.take m2) (Hs.node x y) rfl rfl (Kd.R_take HO4.out HML.out) HB4.out HB4.out.size (by have := HM.out; simp; omega) ?_
      intro v6 w6 ho6 hb6 hg6 _
      rw [← HJ.out] at ho6
      refine hK.out _ _ ?_
      obtain ⟨A6, c6, rfl⟩ := Kd.R_slice ho6
      have hne0 := Kd.R_ne (Kd.R_take HO4.out HML.out) HG4.out (by decide)
      have hne1 := Kd.R_ne (Kd.R_take HO4.out HML.out) HG5.out (by decide)
      have HG6 : Hid (w6.heap[w.heap.size]? = _) := Lib.hid (blk_grown HG4.out hg6 hne0)
      have HG7 : Hid (w6.heap[w.heap.size + 1]? = _) := Lib.hid (blk_grown HG5.out hg6 hne1)
      have HO6 := Lib.hid ho6
      have HB6 := Lib.hid hb6
      clear ho6 hb6 hg6 hne0 hne1 HO4 HG4 HG5 HB4 hHeld HND HJ
      clear hK K
      refine norm_ (a' := ?_) ?_ ?_
      rotate_left
      · show Act.put _ (some 52) _ = _
        simp only [Act.put, List.setIfInBounds_toArray, List.set_cons_zero, List.set_cons_succ, i64_w, i32_w]
        rfl
      refine pure_ (i := 17) (N := some 6) (v := ?_) (a' := ?_) #[true, true, true, true, true, true, true, true, true, true, true, true, true, true, true, true, true, true] rfl rfl (any_of HT_.out (by kernel_rfl)) (fun _ _ _ h => h) (Or.inl ⟨by rfl, ?_⟩) ?_ ?_
      rotate_left
      · intro w'
        go_simp
        with_reducible rfl
      rotate_left
      · simp only [Act.put, List.setIfInBounds_toArray, List.set_cons_zero, List.set_cons_succ, i64_w, i32_w]
        rfl
      refine done_ (done_of HT_.out (by kernel_rfl)) ?_
      clear HT_ HW_
      have hnn : (n0 : Int) / 2 = ((n0 / 2 : Nat) : Int) := by omega
      have HNN := Lib.hid hnn
      clear hnn
      go_wp2
      go_step3
      try simp only [Exit.jump]
      try rw [HNN.out]
      exact ⟨rfl, n0 / 2, Sp.join2 q, A6, c6, _, _, _, _, _, _, _, _, _, _, _, _, _, _, _, _, _, _, _, _, _, _, _, _, _, _, _, _, _, _, _, _, _, _, _, _, _, _, _, _, _, _, _, _, _, _, _, _, _, _, _, _, rfl, HNX.out, HO6.out, HG6.out, HG7.out, HB6.out⟩
    · have hand : ((Go.bits .and .i64 (n0 : Int) 1) == 1) = false := by rw [Sp.and1 n0 (by omega), show n0 % 2 = 0 by omega]; rfl
      have hqr := Lib.hid (HAT.out.even hodd)
      have hfz0 : wx.frozen? ⟨w.heap.size + 1, 0, none⟩ = false := blk_frozen HG1.out 0
      have hfz1 : wx.frozen? ⟨w.heap.size + 1, 1, none⟩ = false := blk_frozen HG1.out 1
      have hcc0 : wx.cell? ⟨w.heap.size + 1, 0, none⟩ = some (.int .i64 0) := by rw [blk_cell HG1.out]; rfl
      have hcc1 : wx.cell? ⟨w.heap.size + 1, 1, none⟩ = some (.slice none 0 0) := by rw [blk_cell HG1.out]; rfl
      have hss : IntKind.i64.wrap ((n0 : Int) + 1) = (n0 : Int) + 1 := IntWalk.i64_in _ (by have := HAP.out; omega)
      clear hodd
      go_wp2
      try simp only [Exit.jump]
      refine bodyPost_ret (results_span 4 5 rfl _ _ _ rfl (set_two HG1.out _ _)) rfl ⟨_, rfl, ?_, below_setCell (below_setCell HB.out (by omega) _ _) (by omega) _ _⟩
      rw [← hqr.out]
      exact ownT_set (ownT_set HO.out HG1.out (by decide) _ _) (blk_set HG1.out _ _) (by decide) _ _
  · rintro a' wx ⟨n, q, Al, cl, u8, u9, u10, u11, u12, u13, u14, u15, u16, u17, u18, u19, u20, u21, u22, u23, u24, u25, u26, u27, u28, u29, u30, u31, u32, u33, u34, u35, u36, u37, u38, u39, u40, u41, u42, u43, u44, u45, u46, u47, u48, u49, u50, u51, u52, u53, u54, u55, u56, u57, u58, u59, rfl, hat, ho, hg0, hg1, hb⟩
    obtain ⟨hql, hnl⟩ := hat.bound
    have HAT := Lib.hid hat
    have HO := Lib.hid ho
    have HG0 := Lib.hid hg0
    have HG1 := Lib.hid hg1
    have HB := Lib.hid hb
    have hc0 : wx.cell? ⟨w.heap.size, 0, none⟩ = some (.int .i64 (n0 : Int)) := by rw [blk_cell hg0]; rfl
    have hw := hb.size
    clear hat ho hg0 hg1 hb
    by_cases hodd : n % 2 = 1
    · have hand : ((Go.bits .and .i64 (n : Int) 1) == 1) = true := by rw [Sp.and1 n (by omega), hodd]; rfl
      obtain ⟨h2, hx, hy⟩ := HAT.out.two hodd
      have HNX := Lib.hid (HAT.out.next hodd)
      obtain ⟨g, cap, e, hgb, hgl, _⟩ := Kd.R_form HO.out (by omega)
      injection e with e1 e2 e3
      subst e1
      clear e2 e3
      obtain ⟨m2, hm2⟩ : ∃ m, m = q.length - 2 := ⟨_, rfl⟩
      obtain ⟨m1, hm1⟩ : ∃ m, m = q.length - 1 := ⟨_, rfl⟩
      have cx := (Kd.R_celln ByteArray.empty HO.out (m2 : Int) (by omega) (by omega)).1
      have cy := (Kd.R_celln ByteArray.empty HO.out (m1 : Int) (by omega) (by omega)).1
      simp only [rdOf, Int.toNat_natCast] at cx cy
      rw [← hm2] at hx
      rw [← hm1] at hy
      obtain ⟨x, hxx⟩ : ∃ x, x = q.getD m2 ByteArray.empty := ⟨_, rfl⟩
      obtain ⟨y, hyy⟩ : ∃ y, y = q.getD m1 ByteArray.empty := ⟨_, rfl⟩
      rw [← hxx] at cx hx
      rw [← hyy] at cy hy
      have HND := Lib.hid (F.node_some x y (by omega))
      have HJ := Lib.hid (show Sp.join2 q = q.take m2 ++ [Hs.node x y] by rw [Sp.join2, ← hm2, ← hm1, ← hxx, ← hyy])
      have w2 : IntKind.i64.wrap ((q.length : Int) - 2) = (m2 : Int) := by rw [show ((q.length : Int) - 2) = (m2 : Int) by omega]; exact IntWalk.i64_in _ (by omega)
      have w1 : IntKind.i64.wrap ((q.length : Int) - 1) = (m1 : Int) := by rw [show ((q.length : Int) - 1) = (m1 : Int) by omega]; exact IntWalk.i64_in _ (by omega)
      have i0 : (0 : Int) ≤ (m2 : Int) := by omega
      have i1 : (m2 : Int) < (q.length : Int) := by omega
      have i2 : (0 : Int) ≤ (m1 : Int) := by omega
      have i3 : (m1 : Int) < (q.length : Int) := by omega
      obtain ⟨i9, hi9, _, _, _⟩ := info_parts infoT
      have hcut : ∀ W : World, (Instr.slice 22 (.slice (some ⟨g, 0, none⟩) q.length cl) none (some (.int .i64 (m2 : Int))) none).run Try.prog W = .ok (.slice (some ⟨g, 0, none⟩) m2 cl) W := by
        intro W
        have := cut_to (P := Try.prog) 22 9 .i64 Try.underlying22 hi9 (some ⟨g, 0, none⟩) q.length cl (m2 : Int) (by omega) (by omega) (Kd.R_reads' HO.out).2.1 W
        rwa [Int.toNat_natCast] at this
      have i4 : m2 < q.length := by omega
      have i5 : m1 < q.length := by omega
      have HM := Lib.hid (show m2 + 1 ≤ 66 by omega)
      have HML := Lib.hid (show m2 ≤ q.length by omega)
      have HXY := Lib.hid hxx
      have hh := Lib.hid hodd
      clear hm2 hm1 hx hy hxx hyy hodd h2
      go_wp2
      refine start_ (n := 18) (S := fun w' => w'.cell? ⟨g, m2, none⟩ = some (.string x) ∧ w'.cell? ⟨g, m1, none⟩ = some (.string y)) (ds := [16]) #[false, false, false, false, false, false, false, false, false, false, false, false, false, false, false, false, false, false] (by kernel_rfl) rfl rfl ⟨by rw [World.cell?_drew]; exact cx, by rw [World.cell?_drew]; exact cy⟩ (fun hHeld => ?_); refine with_tabW push_tab push_bits (fun HT_ HW_ => ?_)
      clear cx cy
      have HOD := Lib.hid (Kd.R_drew HO.out)
      have HG0D : Hid (wx.drew.heap[w.heap.size]? = _) := Lib.hid HG0.out
      have HG1D : Hid (wx.drew.heap[w.heap.size + 1]? = _) := Lib.hid HG1.out
      have HBD := Lib.hid (below_drew HB.out)
      clear hc0 HO HG0 HG1 HB
      obtain ⟨V, hV⟩ : ∃ V, V = wx.drew := ⟨_, rfl⟩
      rw [← hV] at hHeld HOD HG0D HG1D HBD ⊢
      clear hV
      refine pure_ (i := 0) (N := some 36) (v := ?_) (a' := ?_) #[true, false, false, false, false, false, false, false, false, false, false, false, false, false, false, false, false, false] rfl rfl (any_of HT_.out (by kernel_rfl)) (fun _ _ _ h => h) (Or.inl ⟨by rfl, ?_⟩) ?_ ?_
      rotate_left
      · intro w'
        go_simp
        with_reducible rfl
      rotate_left
      · simp only [Act.put, List.setIfInBounds_toArray, List.set_cons_zero, List.set_cons_succ, i64_w, i32_w]
        rfl
      refine pure_ (i := 1) (N := some 37) (v := ?_) (a' := ?_) #[true, true, false, false, false, false, false, false, false, false, false, false, false, false, false, false, false, false] rfl rfl (any_of HT_.out (by kernel_rfl)) (fun _ _ _ h => h) (Or.inl ⟨by rfl, ?_⟩) ?_ ?_
      rotate_left
      · intro w'
        go_simp
        with_reducible rfl
      rotate_left
      · simp only [Act.put, List.setIfInBounds_toArray, List.set_cons_zero, List.set_cons_succ, i64_w, i32_w]
        rfl
      refine pure_ (i := 2) (N := some 38) (v := ?_) (a' := ?_) #[true, true, true, false, false, false, false, false, false, false, false, false, false, false, false, false, false, false] rfl rfl (any_of HT_.out (by kernel_rfl)) (fun _ _ _ h => h) (Or.inl ⟨by rfl, ?_⟩) ?_ ?_
      rotate_left
      · intro w'
        go_simp
        with_reducible rfl
      rotate_left
      · simp only [Act.put, List.setIfInBounds_toArray, List.set_cons_zero, List.set_cons_succ, i64_w, i32_w]
        rfl
      refine pure_ (i := 3) (N := some 39) (v := ?_) (a' := ?_) #[true, true, true, true, false, false, false, false, false, false, false, false, false, false, false, false, false, false] rfl rfl (any_of HT_.out (by kernel_rfl)) (fun _ _ _ h => h) (Or.inl ⟨by rfl, ?_⟩) ?_ ?_
      rotate_left
      · intro w'
        go_simp
        with_reducible rfl
      rotate_left
      · simp only [Act.put, List.setIfInBounds_toArray, List.set_cons_zero, List.set_cons_succ, i64_w, i32_w]
        rfl
      refine pure_ (i := 4) (N := some 40) (v := ?_) (a' := ?_) #[true, true, true, true, true, false, false, false, false, false, false, false, false, false, false, false, false, false] rfl rfl (any_of HT_.out (by kernel_rfl)) (fun _ _ _ h => h) (Or.inl ⟨by rfl, ?_⟩) ?_ ?_
      rotate_left
      · intro w'
        go_simp
        with_reducible rfl
      rotate_left
      · simp only [Act.put, List.setIfInBounds_toArray, List.set_cons_zero, List.set_cons_succ, i64_w, i32_w]
        rfl
      refine pure_ (i := 5) (N := some 41) (v := ?_) (a' := ?_) #[true, true, true, true, true, true, false, false, false, false, false, false, false, false, false, false, false, false] rfl rfl (any_of HT_.out (by kernel_rfl)) (fun _ _ _ h => h) (Or.inl ⟨by rfl, ?_⟩) ?_ ?_
      rotate_left
      · intro w'
        go_simp
        with_reducible rfl
      rotate_left
      · simp only [Act.put, List.setIfInBounds_toArray, List.set_cons_zero, List.set_cons_succ, i64_w, i32_w]
        rfl
      refine pure_ (i := 6) (N := some 42) (v := ?_) (a' := ?_) #[true, true, true, true, true, true, true, false, false, false, false, false, false, false, false, false, false, false] rfl rfl (any_of HT_.out (by kernel_rfl)) (fun _ _ _ h => h) (Or.inl ⟨by rfl, ?_⟩) ?_ ?_
      rotate_left
      · intro w'
        go_simp
        with_reducible rfl
      rotate_left
      · simp only [Act.put, List.setIfInBounds_toArray, List.set_cons_zero, List.set_cons_succ, i64_w, i32_w]
        rfl
      refine pure_ (i := 7) (N := some 43) (v := ?_) (a' := ?_) #[true, true, true, true, true, true, true, true, false, false, false, false, false, false, false, false, false, false] rfl rfl (any_of HT_.out (by kernel_rfl)) (fun _ _ _ h => h) (Or.inl ⟨by rfl, ?_⟩) ?_ ?_
      rotate_left
      · intro w'
        go_simp
        with_reducible rfl
      rotate_left
      · simp only [Act.put, List.setIfInBounds_toArray, List.set_cons_zero, List.set_cons_succ, i64_w, i32_w]
        rfl
      refine take_ (i := 8) (N := some 44) (v := ?_) (a' := ?_) #[true, true, true, true, true, true, true, true, true, false, false, false, false, false, false, false, false, false] rfl rfl (take_ofW HT_.out HW_.out (by kernel_rfl)) (fun _ _ _ h => h) (Or.inl ⟨by rfl, ?_⟩) hHeld ?_ ?_
      rotate_left
      · rintro w' ⟨s0, s1⟩
        go_simp
        with_reducible rfl
      rotate_left
      · simp only [Act.put, List.setIfInBounds_toArray, List.set_cons_zero, List.set_cons_succ, i64_w, i32_w]
        rfl
      refine pure_ (i := 9) (N := some 45) (v := ?_) (a' := ?_) #[true, true, true, true, true, true, true, true, true, true, false, false, false, false, false, false, false, false] rfl rfl (any_of HT_.out (by kernel_rfl)) (fun _ _ _ h => h) (Or.inl ⟨by rfl, ?_⟩) ?_ ?_
      rotate_left
      · intro w'
        go_simp
        with_reducible rfl
      rotate_left
      · simp only [Act.put, List.setIfInBounds_toArray, List.set_cons_zero, List.set_cons_succ, i64_w, i32_w]
        rfl
      refine pure_ (i := 10) (N := some 46) (v := ?_) (a' := ?_) #[true, true, true, true, true, true, true, true, true, true, true, false, false, false, false, false, false, false] rfl rfl (any_of HT_.out (by kernel_rfl)) (fun _ _ _ h => h) (Or.inl ⟨by rfl, ?_⟩) ?_ ?_
      rotate_left
      · intro w'
        go_simp
        with_reducible rfl
      rotate_left
      · simp only [Act.put, List.setIfInBounds_toArray, List.set_cons_zero, List.set_cons_succ, i64_w, i32_w]
        rfl
      refine pure_ (i := 11) (N := some 47) (v := ?_) (a' := ?_) #[true, true, true, true, true, true, true, true, true, true, true, true, false, false, false, false, false, false] rfl rfl (any_of HT_.out (by kernel_rfl)) (fun _ _ _ h => h) (Or.inl ⟨by rfl, ?_⟩) ?_ ?_
      rotate_left
      · intro w'
        go_simp
        with_reducible rfl
      rotate_left
      · simp only [Act.put, List.setIfInBounds_toArray, List.set_cons_zero, List.set_cons_succ, i64_w, i32_w]
        rfl
      refine pure_ (i := 12) (N := some 48) (v := ?_) (a' := ?_) #[true, true, true, true, true, true, true, true, true, true, true, true, true, false, false, false, false, false] rfl rfl (any_of HT_.out (by kernel_rfl)) (fun _ _ _ h => h) (Or.inl ⟨by rfl, ?_⟩) ?_ ?_
      rotate_left
      · intro w'
        go_simp
        with_reducible rfl
      rotate_left
      · simp only [Act.put, List.setIfInBounds_toArray, List.set_cons_zero, List.set_cons_succ, i64_w, i32_w]
        rfl
      refine take_ (i := 13) (N := some 49) (v := ?_) (a' := ?_) #[true, true, true, true, true, true, true, true, true, true, true, true, true, true, false, false, false, false] rfl rfl (take_ofW HT_.out HW_.out (by kernel_rfl)) (fun _ _ _ h => h) (Or.inl ⟨by rfl, ?_⟩) hHeld ?_ ?_
      rotate_left
      · rintro w' ⟨s0, s1⟩
        go_simp
        with_reducible rfl
      rotate_left
      · simp only [Act.put, List.setIfInBounds_toArray, List.set_cons_zero, List.set_cons_succ, i64_w, i32_w]
        rfl
      refine one_ (i := 14) (N := some 50) #[true, true, true, true, true, true, true, true, true, true, true, true, true, true, true, false, false, false] rfl rfl (one_of HT_.out (by kernel_rfl)) (by decide) (fun K hK => ?_)
      refine goes_ Try.func31 (by kernel_rfl) rfl #[.string x, .string y] (by rfl) rfl rfl (by simp only [List.map_toArray, List.map_cons, List.map_nil]; rfl) ?_
      refine (F.hash_Node.calls x y (Hs.node x y) V HND.out).mono ?_
      rintro e w4 ⟨rfl, hb4⟩
      refine ⟨_, rfl, ?_⟩
      refine hK.out _ _ ⟨pw_cell_below hb4 hHeld.1, pw_cell_below hb4 hHeld.2⟩ (fun hHeld => ?_)
      have HO4 := Lib.hid (ownT_below HOD.out hb4)
      have HG4 : Hid (w4.heap[w.heap.size]? = _) := Lib.hid ((hb4.block _ (blk_lt HG0D.out)).trans HG0D.out)
      have HG5 : Hid (w4.heap[w.heap.size + 1]? = _) := Lib.hid ((hb4.block _ (blk_lt HG1D.out)).trans HG1D.out)
      have HB4 := Lib.hid (below_then HBD.out HBD.out.size hb4)
      clear hb4 HOD HG0D HG1D HBD
      clear hK K
      refine norm_ (a' := ?_) ?_ ?_
      rotate_left
      · show Act.put _ (some 50) _ = _
        simp only [Act.put, List.setIfInBounds_toArray, List.set_cons_zero, List.set_cons_succ, i64_w, i32_w]
        rfl
      refine one_ (i := 15) (N := some 51) #[true, true, true, true, true, true, true, true, true, true, true, true, true, true, true, true, false, false] rfl rfl (one_of HT_.out (by kernel_rfl)) (by decide) (fun K hK => ?_)
      refine boxT_step (by rfl) rfl _ rfl (Hs.node x y) rfl ?_
      refine hK.out _ _ ⟨pw_cell_below ((Below.refl _ _).alloc (Nat.le_refl _) _) hHeld.1, pw_cell_below ((Below.refl _ _).alloc (Nat.le_refl _) _) hHeld.2⟩ (fun hHeld => ?_)
      clear hK K
      refine norm_ (a' := ?_) ?_ ?_
      rotate_left
      · show Act.put _ (some 51) _ = _
        simp only [Act.put, List.setIfInBounds_toArray, List.set_cons_zero, List.set_cons_succ, i64_w, i32_w]
        rfl
      refine last_ (i := 16) (N := some 52) #[true, true, true, true, true, true, true, true, true, true, true, true, true, true, true, true, true, false] rfl rfl (one_of HT_.out (by kernel_rfl)) (by decide) (fun K hK => ?_)
      refine appT_one_step (w0 := w) w.heap.size (by rfl) rfl (.tmp 39) (.tmp 51) rfl (.slice (some ⟨g, 0, none⟩) m2 cl) (q.take m2) (Hs.node x y) rfl rfl (Kd.R_take HO4.out HML.out) HB4.out HB4.out.size (by have := HM.out; simp; omega) ?_
      intro v6 w6 ho6 hb6 hg6 _
      rw [← HJ.out] at ho6
      refine hK.out _ _ ?_
      obtain ⟨A6, c6, rfl⟩ := Kd.R_slice ho6
      have hne0 := Kd.R_ne (Kd.R_take HO4.out HML.out) HG4.out (by decide)
      have hne1 := Kd.R_ne (Kd.R_take HO4.out HML.out) HG5.out (by decide)
      have HG6 : Hid (w6.heap[w.heap.size]? = _) := Lib.hid (blk_grown HG4.out hg6 hne0)
      have HG7 : Hid (w6.heap[w.heap.size + 1]? = _) := Lib.hid (blk_grown HG5.out hg6 hne1)
      have HO6 := Lib.hid ho6
      have HB6 := Lib.hid hb6
      clear ho6 hb6 hg6 hne0 hne1 HO4 HG4 HG5 HB4 hHeld HND HJ
      clear hK K
      refine norm_ (a' := ?_) ?_ ?_
      rotate_left
      · show Act.put _ (some 52) _ = _
        simp only [Act.put, List.setIfInBounds_toArray, List.set_cons_zero, List.set_cons_succ, i64_w, i32_w]
        rfl
      refine pure_ (i := 17) (N := some 6) (v := ?_) (a' := ?_) #[true, true, true, true, true, true, true, true, true, true, true, true, true, true, true, true, true, true] rfl rfl (any_of HT_.out (by kernel_rfl)) (fun _ _ _ h => h) (Or.inl ⟨by rfl, ?_⟩) ?_ ?_
      rotate_left
      · intro w'
        go_simp
        with_reducible rfl
      rotate_left
      · simp only [Act.put, List.setIfInBounds_toArray, List.set_cons_zero, List.set_cons_succ, i64_w, i32_w]
        rfl
      refine done_ (done_of HT_.out (by kernel_rfl)) ?_
      clear HT_ HW_
      have hnn : (n : Int) / 2 = ((n / 2 : Nat) : Int) := by omega
      have HNN := Lib.hid hnn
      clear hnn
      go_wp2
      go_step3
      try simp only [Exit.jump]
      try rw [HNN.out]
      exact ⟨rfl, ⟨n / 2, Sp.join2 q, A6, c6, _, _, _, _, _, _, _, _, _, _, _, _, _, _, _, _, _, _, _, _, _, _, _, _, _, _, _, _, _, _, _, _, _, _, _, _, _, _, _, _, _, _, _, _, _, _, _, _, _, _, _, _, rfl, HNX.out, HO6.out, HG6.out, HG7.out, HB6.out⟩, by have := hh.out; simp [intOf]; omega⟩
    · have hand : ((Go.bits .and .i64 (n : Int) 1) == 1) = false := by rw [Sp.and1 n (by omega), show n % 2 = 0 by omega]; rfl
      have hqr := Lib.hid (HAT.out.even hodd)
      have hfz0 : wx.frozen? ⟨w.heap.size + 1, 0, none⟩ = false := blk_frozen HG1.out 0
      have hfz1 : wx.frozen? ⟨w.heap.size + 1, 1, none⟩ = false := blk_frozen HG1.out 1
      have hcc0 : wx.cell? ⟨w.heap.size + 1, 0, none⟩ = some (.int .i64 0) := by rw [blk_cell HG1.out]; rfl
      have hcc1 : wx.cell? ⟨w.heap.size + 1, 1, none⟩ = some (.slice none 0 0) := by rw [blk_cell HG1.out]; rfl
      have hss : IntKind.i64.wrap ((n0 : Int) + 1) = (n0 : Int) + 1 := IntWalk.i64_in _ (by have := HAP.out; omega)
      clear hodd
      go_wp2
      try simp only [Exit.jump]
      refine bodyPost_ret (results_span 4 5 rfl _ _ _ rfl (set_two HG1.out _ _)) rfl ⟨_, rfl, ?_, below_setCell (below_setCell HB.out (by omega) _ _) (by omega) _ _⟩
      rw [← hqr.out]
      exact ownT_set (ownT_set HO.out HG1.out (by decide) _ _) (blk_set HG1.out _ _) (by decide) _ _
-- END
end Go.Proofs.Ytoihdghoopgdfaa
end
