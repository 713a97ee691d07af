/-
  sawyerlaw07.BloomOrder: its walk; it answers true for all keys that can be read.
-/
import Derived.Test.YtojabcadoajbjaaOrder2
namespace Go.Proofs.Ytojabcadoajbjaa
open Go.RowKit Go.Proofs.YtojabcadoajbjaaW.PrintWords Go.Proofs.YtojabcadoajbjaaW.PrintLast Go.Proofs.YtojabcadoajbjaaW.PrintMore
set_option linter.unusedVariables false
set_option linter.unusedSimpArgs false

set_option maxRecDepth 100000 in
set_option maxHeartbeats 8000000 in
theorem order_walk (A : Option Addr) (c : Nat) (keys : List (List Int)) (w : World) (hr : Kd.C (Kd.slice 5 (Kd.int .u8)) w A keys.length keys) (hc : keys.length ≤ c) (hn : keys.length * 24 ≤ 140737488351232) (hk : ∀ r ∈ keys, r.length ≤ 140737488351232) :
    Calls Try.prog 5 #[.slice A keys.length c] w fun e w' => e = .returned (.bool true) ∧ Below w.heap.size w w' := by
  obtain ⟨ts, hts, hall⟩ := k3_of_C hr
  have HR := Lib.hid hr
  have HC := Lib.hid hc
  have HK := Lib.hid hk
  have HT := Lib.hid hts
  have HA := Lib.hid hall
  have hlen : ts.length = keys.length := hall.length
  have HLEN := Lib.hid hlen
  clear hr hc hk hts hall
  go_enter Try.func5, Try.ntmps5
  go_wp2_with fail
  refine (awake7_calls w).mono ?_
  rintro e w1 ⟨rfl, hb1⟩
  have HB1 := Lib.hid hb1
  clear hb1
  go_wp2_with fail
  obtain ⟨n, hnn⟩ : ∃ n, n = keys.length := ⟨_, rfl⟩
  have HN := Lib.hid hnn
  rw [← hnn] at hn hlen ⊢
  clear hnn
  go_loopw [5, 4] (fun v b wr => ∃ (j : Nat) (Ab : Option Addr) (cb : Nat) (bs : List T3), j ≤ n ∧ v = .int .i64 ((j : Int) - 1) ∧ b = .slice Ab bs.length cb ∧ bs = (ts.drop j).reverse ∧ Own3 wr w.heap.size (.slice Ab bs.length cb) bs ∧ Below w.heap.size w wr) (fun v _ _ => (intOf v + 1).toNat)
  case atStart => exact ⟨n, none, 0, [], Nat.le_refl _, by go_num, rfl, by rw [List.drop_eq_nil_of_le (by omega)]; rfl, Kd.R_nil _ _ _ _ _, HB1.out⟩
  case round =>
    obtain ⟨j, Ab, cb, bs, hj, rfl, rfl, hbs, hob, hbb⟩ := hrel
    obtain ⟨wx, rfl⟩ : ∃ wx, wx = wr := ⟨_, rfl⟩
    have hbl : bs.length = n - j := by rw [hbs, List.length_reverse, List.length_drop, hlen]
    have HBS := Lib.hid hbs
    have HBL := Lib.hid hbl
    have HOB := Lib.hid hob
    have HBB := Lib.hid hbb
    have hsz := hbb.size
    clear hbs hbl hob hbb
    cases j with
    | zero =>
      rw [show (((0 : Nat) : Int) - 1) = -1 from rfl]
      by_cases h0 : n = 0
      · have e0 : ((n : Int) == 0) = true := by rw [h0]; rfl
        have e1 : (n : Int) = 0 := by omega
        clear h0
        go_wp2
        go_ret
        exact ⟨rfl, HBB.out⟩
      · have e0 : ((n : Int) == 0) = false := beq_eq_false_iff_ne.2 (by omega)
        have e1 : ¬ (n : Int) = 0 := by omega
        clear h0
        -- REGIONS
        obtain ⟨m, hnm⟩ : ∃ m, n = m + 1 := ⟨n - 1, by omega⟩
        obtain ⟨ad0, cs0, e0', hcl0, hM0, hcell0⟩ := Kd.C_get HT.out (none, 0, 0) 0 (by omega) (by omega)
        subst e0'
        obtain ⟨ad1, cs1, e1', hcl1, hM1, hcell1⟩ := Kd.C_get HT.out (none, 0, 0) (m : Int) (by omega) (by omega)
        injection e1' with e1'
        subst e1'
        have hc0 := hcell0 0 (enc3 (ts.getD 0 (none, 0, 0))) (by have h : cs0 = [enc3 (ts.getD (0 : Int).toNat (none, 0, 0))] := hM0; rw [h]; rfl)
        have hc1 := hcell1 0 (enc3 (ts.getD m (none, 0, 0))) (by have h : cs1 = [enc3 (ts.getD (m : Int).toNat (none, 0, 0))] := hM1; rw [h, Int.toNat_natCast]; rfl)
        rw [show k3.sz = 1 from rfl, show (0 : Int).toNat = 0 from rfl, Nat.mul_one, Nat.add_zero, Addr.add_zero'] at hc0
        rw [show k3.sz = 1 from rfl, Int.toNat_natCast, Nat.mul_one, Nat.add_zero] at hc1
        obtain ⟨key0, hkey0⟩ : ∃ k, k = keys.getD 0 [] := ⟨_, rfl⟩
        obtain ⟨key1, hkey1⟩ : ∃ k, k = keys.getD m [] := ⟨_, rfl⟩
        have hm0 : key0 ∈ keys := by rw [hkey0, List.getD_eq_getElem?_getD, List.getElem?_eq_getElem (show 0 < keys.length by have := HN.out; omega)]; exact List.getElem_mem _
        have hm1 : key1 ∈ keys := by rw [hkey1, List.getD_eq_getElem?_getD, List.getElem?_eq_getElem (show m < keys.length by have := HN.out; omega)]; exact List.getElem_mem _
        have HLK9 := Lib.hid (HA.out.at 0 (ts.getD 0 (none, 0, 0)) key0 (by rw [List.getD_eq_getElem?_getD, List.getElem?_eq_getElem (show 0 < ts.length by omega)]; rfl) (by rw [hkey0, List.getD_eq_getElem?_getD, List.getElem?_eq_getElem (show 0 < keys.length by have := HN.out; omega)]; rfl))
        have HLK10 := Lib.hid (HA.out.at m (ts.getD m (none, 0, 0)) key1 (by rw [List.getD_eq_getElem?_getD, List.getElem?_eq_getElem (show m < ts.length by omega)]; rfl) (by rw [hkey1, List.getD_eq_getElem?_getD, List.getElem?_eq_getElem (show m < keys.length by have := HN.out; omega)]; rfl))
        obtain ⟨⟨ta, tn, tc⟩, ht⟩ : ∃ t : T3, t = ts.getD 0 (none, 0, 0) := ⟨_, rfl⟩
        obtain ⟨⟨ua, un, uc⟩, hu⟩ : ∃ t : T3, t = ts.getD m (none, 0, 0) := ⟨_, rfl⟩
        rw [← ht] at hc0 HLK9
        rw [← hu] at hc1 HLK10
        have HX9 : Hid (wx.cell? ad0 = some (.slice ta tn tc)) := Lib.hid (pw_cell_below HBB.out hc0)
        have HX10W : Hid (w.cell? (ad0.add m) = some (.slice ua un uc)) := Lib.hid hc1
        have hq9 : bloom_Build.f (keys ++ [key0]) = some (buildB (keys ++ [key0])) := F.build_some _ (rows_snoc HK.out hm0) (by have := HN.out; simp; omega)
        have hq10 : bloom_Build.f (keys ++ [key1]) = some (buildB (keys ++ [key1])) := F.build_some _ (rows_snoc HK.out hm1) (by have := HN.out; simp; omega)
        have heq := buildB_again keys key0 key1 hm0 hm1
        have HQ9 := Lib.hid hq9
        have HQK := Lib.hid (F.build_some keys (fun r hr => by have := HK.out r hr; omega) (by have := HN.out; omega))
        have HQR := Lib.hid (F.build_some keys.reverse (fun r hr => by have := HK.out r (List.mem_reverse.1 hr); omega) (by have := HN.out; simp; omega))
        have HSM := Lib.hid (show F.sawyerref02_Same.f (buildB keys) (buildB keys.reverse) = some true by rw [buildB_reverse]; exact same_self _)
        have HSE := Lib.hid (show F.sawyerref02_Same.f (buildB (keys ++ [key0])) (buildB (keys ++ [key1])) = some true by rw [heq]; exact same_self _)
        have HQ10 := Lib.hid hq10
        have HEQ := Lib.hid heq
        have wm : IntKind.i64.wrap ((n : Int) - 1) = (m : Int) := by rw [show ((n : Int) - 1) = (m : Int) by omega]; exact IntWalk.i64_in _ (by omega)
        have i0 : (0 : Int) < (n : Int) := by omega
        have i1 : (m : Int) < (n : Int) := by omega
        have i2 : (0 : Int) ≤ (m : Int) := by omega
        have i3 : 0 < n := by omega
        have i4 : m < n := by omega
        clear hcl0 hM0 hcell0 hcl1 hM1 hcell1 hc0 hc1 hkey0 hkey1 hm0 hm1 ht hu hq9 hq10 heq
        have HNM := Lib.hid hnm
        clear hnm
        go_wp2_with fail
        refine start_ (n := 10) (S := fun w' => w'.cell? ad0 = some (.slice ta tn tc)) (ds := []) #[false, false, false, false, false, false, false, false, false, false] (by kernel_rfl) rfl rfl (by rw [World.cell?_drew]; exact HX9.out) (fun hHeld => ?_); refine with_tabW order_tab9 order_bits9 (fun HT_ HW_ => ?_)
        have HBV9 := Lib.hid (below_drew1 HBB.out)
        have HSD9 := Lib.hid (below_drew1 (Below.refl wx.heap.size wx))
        generalize wx.drew = V9 at *
        have HTV9 := Lib.hid (show Kd.C k3 V9 (some ad0) n ts by have h := Kd.C_below HT.out HBV9.out; rw [hlen] at h; exact h)
        have HAV9 := Lib.hid (All2.below HBV9.out HA.out)
        have HL9 := Lib.hid (Leads.below HLK9.out HBV9.out)
        have HXV9 := Lib.hid hHeld
        clear HX9
        refine pure_ (i := 1) (N := some 28) (v := ?_) (a' := ?_) #[false, true, false, false, false, false, false, false, false, false] rfl rfl (any_of HT_.out (by kernel_rfl)) (fun _ _ _ h => h) (Or.inl ⟨by rfl, ?_⟩) ?_ ?_
        rotate_left
        · intro w'
          go_simp
          with_reducible rfl
        rotate_left
        · simp only [Act.put, List.setIfInBounds_toArray, List.set_cons_zero, List.set_cons_succ, i64_w, i32_w]
          rfl
        refine pure_ (i := 3) (N := some 30) (v := ?_) (a' := ?_) #[false, true, false, true, false, false, false, false, false, false] rfl rfl (any_of HT_.out (by kernel_rfl)) (fun _ _ _ h => h) (Or.inl ⟨by rfl, ?_⟩) ?_ ?_
        rotate_left
        · intro w'
          go_simp
          with_reducible rfl
        rotate_left
        · simp only [Act.put, List.setIfInBounds_toArray, List.set_cons_zero, List.set_cons_succ, i64_w, i32_w]
          rfl
        refine pure_ (i := 4) (N := some 31) (v := ?_) (a' := ?_) #[false, true, false, true, true, false, false, false, false, false] rfl rfl (any_of HT_.out (by kernel_rfl)) (fun _ _ _ h => h) (Or.inl ⟨by rfl, ?_⟩) ?_ ?_
        rotate_left
        · intro w'
          go_simp
          with_reducible rfl
        rotate_left
        · simp only [Act.put, List.setIfInBounds_toArray, List.set_cons_zero, List.set_cons_succ, i64_w, i32_w]
          rfl
        refine take_ (i := 5) (N := some 32) (v := ?_) (a' := ?_) #[false, true, false, true, true, true, false, false, false, false] rfl rfl (take_ofW HT_.out HW_.out (by kernel_rfl)) (fun _ _ _ h => h) (Or.inl ⟨by rfl, ?_⟩) hHeld ?_ ?_
        rotate_left
        · intro w' hS
          go_simp
          with_reducible rfl
        rotate_left
        · simp only [Act.put, List.setIfInBounds_toArray, List.set_cons_zero, List.set_cons_succ, i64_w, i32_w]
          rfl
        refine join_ (σ := Value × Value × Value) 3 #[true, true, true, true, true, true, true, false, false, false] (fun s => [(27, s.1), (29, s.2.1), (33, s.2.2)]) (fun s w' => Own3 w' V9.heap.size s.2.1 ts ∧ Own3 w' V9.heap.size s.2.2 [(ta, tn, tc)] ∧ Below V9.heap.size V9 w') ?_ (fun hcont => ?_)
        rotate_left
        · refine two_ (i := 0) (j := 6) (Ni := some 27) (Nj := some 33) #[true, true, false, true, true, true, false, false, false, false] #[false, true, false, true, true, true, true, false, false, false] rfl rfl rfl rfl (two_of HT_.out (by kernel_rfl)) (by decide) (by decide) ?_ ?_
          · intro K hK
            refine lit3_none_step (w0 := V9) V9.heap.size (by rfl) rfl rfl (Below.refl V9.heap.size V9) (Below.refl V9.heap.size V9).size ?_
            intro va wa oa ba ga na
            refine hK.out _ _ (cell_step HXV9.out ba) (fun hHeld => ?_)
            clear hK K
            refine norm_ (a' := ?_) ?_ ?_
            rotate_left
            · show Act.put _ (some 27) _ = _
              simp only [Act.put, List.setIfInBounds_toArray, List.set_cons_zero, List.set_cons_succ, i64_w, i32_w]
              rfl
            refine two_ (i := 2) (j := 6) (Ni := some 29) (Nj := some 33) #[true, true, true, true, true, true, false, false, false, false] #[true, true, false, true, true, true, true, false, false, false] rfl rfl rfl rfl (two_of HT_.out (by kernel_rfl)) (by decide) (by decide) ?_ ?_
            · intro K hK
              refine app3_step (w0 := V9) V9.heap.size (by rfl) rfl (.tmp 27) (.tmp 28) rfl va [] ts _ _ _ rfl rfl (oa) (Kd.C_below HTV9.out ba) (ba) (ba).size (by simp; omega) ?_
              intro vb wb ob bb gb nb
              refine hK.out _ _ (cell_step HXV9.out bb) (fun hHeld => ?_)
              clear hK K
              refine norm_ (a' := ?_) ?_ ?_
              rotate_left
              · show Act.put _ (some 29) _ = _
                simp only [Act.put, List.setIfInBounds_toArray, List.set_cons_zero, List.set_cons_succ, i64_w, i32_w]
                rfl
              refine one_ (i := 6) (N := some 33) #[true, true, true, true, true, true, true, false, false, false] rfl rfl (one_of HT_.out (by kernel_rfl)) (by decide) (fun K hK => ?_)
              refine lit3_one_step (w0 := V9) V9.heap.size (by rfl) rfl _ rfl (ta, tn, tc) rfl (fun _ => True) (trivial) (bb) (bb).size ?_
              intro vc wc oc bc gc nc
              refine hK.out _ _ (cell_step HXV9.out bc) (fun hHeld => ?_)
              clear hK K
              refine norm_ (a' := ?_) ?_ ?_
              rotate_left
              · show Act.put _ (some 33) _ = _
                simp only [Act.put, List.setIfInBounds_toArray, List.set_cons_zero, List.set_cons_succ, i64_w, i32_w]
                rfl
              refine norm_ (a' := putAll _ [(27, va), (29, vb), (33, vc)]) ?_ (hcont (va, vb, vc) wc ⟨own3_all (own3_new ob gc nc), oc, bc⟩)
              rfl
            · intro K hK
              refine lit3_one_step (w0 := V9) V9.heap.size (by rfl) rfl _ rfl (ta, tn, tc) rfl (fun k => True ∧ some k ≠ va.ownBlock) (fresh3 oa) (ba) (ba).size ?_
              intro vc wc oc bc gc nc
              refine hK.out _ _ (cell_step HXV9.out bc) (fun hHeld => ?_)
              clear hK K
              refine norm_ (a' := ?_) ?_ ?_
              rotate_left
              · show Act.put _ (some 33) _ = _
                simp only [Act.put, List.setIfInBounds_toArray, List.set_cons_zero, List.set_cons_succ, i64_w, i32_w]
                rfl
              refine one_ (i := 2) (N := some 29) #[true, true, true, true, true, true, true, false, false, false] rfl rfl (one_of HT_.out (by kernel_rfl)) (by decide) (fun K hK => ?_)
              refine app3_step (w0 := V9) V9.heap.size (by rfl) rfl (.tmp 27) (.tmp 28) rfl va [] ts _ _ _ rfl rfl (own3_all (own3_new oa gc nc)) (Kd.C_below HTV9.out bc) (bc) (bc).size (by simp; omega) ?_
              intro vb wb ob bb gb nb
              refine hK.out _ _ (cell_step HXV9.out bb) (fun hHeld => ?_)
              clear hK K
              refine norm_ (a' := ?_) ?_ ?_
              rotate_left
              · show Act.put _ (some 29) _ = _
                simp only [Act.put, List.setIfInBounds_toArray, List.set_cons_zero, List.set_cons_succ, i64_w, i32_w]
                rfl
              refine norm_ (a' := putAll _ [(27, va), (29, vb), (33, vc)]) ?_ (hcont (va, vb, vc) wb ⟨ob, own3_all (Kd.R_after oc gb nb), bb⟩)
              rfl
          · intro K hK
            refine lit3_one_step (w0 := V9) V9.heap.size (by rfl) rfl _ rfl (ta, tn, tc) rfl (fun _ => True) (trivial) (Below.refl V9.heap.size V9) (Below.refl V9.heap.size V9).size ?_
            intro vc wc oc bc gc nc
            refine hK.out _ _ (cell_step HXV9.out bc) (fun hHeld => ?_)
            clear hK K
            refine norm_ (a' := ?_) ?_ ?_
            rotate_left
            · show Act.put _ (some 33) _ = _
              simp only [Act.put, List.setIfInBounds_toArray, List.set_cons_zero, List.set_cons_succ, i64_w, i32_w]
              rfl
            refine one_ (i := 0) (N := some 27) #[true, true, false, true, true, true, true, false, false, false] rfl rfl (one_of HT_.out (by kernel_rfl)) (by decide) (fun K hK => ?_)
            refine lit3_none_step (w0 := V9) V9.heap.size (by rfl) rfl rfl (bc) (bc).size ?_
            intro va wa oa ba ga na
            refine hK.out _ _ (cell_step HXV9.out ba) (fun hHeld => ?_)
            clear hK K
            refine norm_ (a' := ?_) ?_ ?_
            rotate_left
            · show Act.put _ (some 27) _ = _
              simp only [Act.put, List.setIfInBounds_toArray, List.set_cons_zero, List.set_cons_succ, i64_w, i32_w]
              rfl
            refine one_ (i := 2) (N := some 29) #[true, true, true, true, true, true, true, false, false, false] rfl rfl (one_of HT_.out (by kernel_rfl)) (by decide) (fun K hK => ?_)
            refine app3_step (w0 := V9) V9.heap.size (by rfl) rfl (.tmp 27) (.tmp 28) rfl va [] ts _ _ _ rfl rfl (oa) (Kd.C_below HTV9.out ba) (ba) (ba).size (by simp; omega) ?_
            intro vb wb ob bb gb nb
            refine hK.out _ _ (cell_step HXV9.out bb) (fun hHeld => ?_)
            clear hK K
            refine norm_ (a' := ?_) ?_ ?_
            rotate_left
            · show Act.put _ (some 29) _ = _
              simp only [Act.put, List.setIfInBounds_toArray, List.set_cons_zero, List.set_cons_succ, i64_w, i32_w]
              rfl
            refine norm_ (a' := putAll _ [(27, va), (29, vb), (33, vc)]) ?_ (hcont (va, vb, vc) wb ⟨ob, own3_all (Kd.R_after (own3_new oc ga na) gb nb), bb⟩)
            rfl
        rintro ⟨va, vb, vc⟩ wd9 ⟨ob, oc, bb⟩
        simp only [putAll, Act.put, List.setIfInBounds_toArray, List.set_cons_zero, List.set_cons_succ]
        obtain ⟨Ac, cc, rfl⟩ := Kd.R_slice oc
        refine one_ (i := 7) (N := some 34) #[true, true, true, true, true, true, true, true, false, false] rfl rfl (one_of HT_.out (by kernel_rfl)) (by decide) (fun K hK => ?_)
        refine app3_step (w0 := V9) V9.heap.size (by rfl) rfl (.tmp 29) (.tmp 33) rfl vb ts [(ta, tn, tc)] _ _ _ rfl rfl ob (C_one3 oc) bb bb.size (by simp; omega) ?_
        intro ve we oe be ge ne
        refine hK.out _ _ (cell_step HXV9.out be) (fun hHeld => ?_)
        obtain ⟨Ae, ce, rfl⟩ := Kd.R_slice oe
        clear hK K
        refine norm_ (a' := ?_) ?_ ?_
        rotate_left
        · show Act.put _ (some 34) _ = _
          simp only [Act.put, List.setIfInBounds_toArray, List.set_cons_zero, List.set_cons_succ, i64_w, i32_w]
          rfl
        refine one_ (i := 8) (N := some 35) #[true, true, true, true, true, true, true, true, true, false] rfl rfl (one_of HT_.out (by kernel_rfl)) (by decide) (fun K hK => ?_)
        have hAll : All2 we (ts ++ [((ta, tn, tc) : T3)]) (keys ++ [key0]) := All2.append (All2.below be (HAV9.out)) ⟨(HL9.out).below be, trivial⟩
        have hC := C_of_k3 (Kd.R_reads' oe).2.2 hAll
        have hlq : (ts ++ [((ta, tn, tc) : T3)]).length = ((keys ++ [key0])).length := All2.length hAll
        refine goes_ Try.func9 (by kernel_rfl) rfl #[.slice Ae ((keys ++ [key0])).length ce] (by rfl) rfl rfl (by rw [← hlq]; simp only [List.map_toArray, List.map_cons, List.map_nil]; rfl) ?_
        refine (bloom_Build.calls Ae ce ((keys ++ [key0])) (buildB ((keys ++ [key0]))) we hC (by rw [← hlq]; exact (Kd.R_reads' oe).2.1) HQ9.out).mono ?_
        rintro e wf9 ⟨vf, rfl, of, bf⟩
        refine ⟨_, rfl, ?_⟩
        have bg := below_then be be.size bf
        refine hK.out _ _ (cell_step HXV9.out bg) (fun hHeld => ?_)
        obtain ⟨Af9, cf9, rfl⟩ := Kd.R_slice of
        clear hK K
        refine norm_ (a' := ?_) ?_ ?_
        rotate_left
        · show Act.put _ (some 35) _ = _
          simp only [Act.put, List.setIfInBounds_toArray, List.set_cons_zero, List.set_cons_succ, i64_w, i32_w]
          rfl
        refine pure_ (i := 9) (N := some 6) (v := ?_) (a' := ?_) #[true, true, true, true, true, true, true, true, true, true] rfl rfl (any_of HT_.out (by kernel_rfl)) (fun _ _ _ h => h) (Or.inl ⟨by rfl, ?_⟩) ?_ ?_
        rotate_left
        · intro w'
          go_simp
          with_reducible rfl
        rotate_left
        · simp only [Act.put, List.setIfInBounds_toArray, List.set_cons_zero, List.set_cons_succ, i64_w, i32_w]
          rfl
        refine done_ (done_of HT_.out (by kernel_rfl)) ?_
        have HF9 := Lib.hid (Kd.R_reads' of)
        have HBF9 := Lib.hid (below_then HBV9.out HBV9.out.size bg)
        have HS9 := Lib.hid (below_then HSD9.out HSD9.out.size bg)
        clear HT_ HW_ hHeld ob oc bb oe be ge ne hAll hC hlq of bf bg HXV9 HTV9 HAV9
        go_wp2_with fail
        have HBF9W := HBF9
        have HX10 : Hid (wf9.cell? (ad0.add m) = some (.slice ua un uc)) := Lib.hid (pw_cell_below HBF9W.out HX10W.out)
        refine start_ (n := 13) (S := fun w' => w'.cell? (ad0.add m) = some (.slice ua un uc)) (ds := []) #[false, false, false, false, false, false, false, false, false, false, false, false, false] (by kernel_rfl) rfl rfl (by rw [World.cell?_drew]; exact HX10.out) (fun hHeld => ?_); refine with_tabW order_tab10 order_bits10 (fun HT_ HW_ => ?_)
        have HBV10 := Lib.hid (below_drew1 HBF9W.out)
        have HSD10 := Lib.hid (below_drew1 (Below.refl wf9.heap.size wf9))
        generalize wf9.drew = V10 at *
        have HTV10 := Lib.hid (show Kd.C k3 V10 (some ad0) n ts by have h := Kd.C_below HT.out HBV10.out; rw [hlen] at h; exact h)
        have HAV10 := Lib.hid (All2.below HBV10.out HA.out)
        have HL10 := Lib.hid (Leads.below HLK10.out HBV10.out)
        have HXV10 := Lib.hid hHeld
        clear HX10
        refine pure_ (i := 1) (N := some 37) (v := ?_) (a' := ?_) #[false, true, false, false, false, false, false, false, false, false, false, false, false] rfl rfl (any_of HT_.out (by kernel_rfl)) (fun _ _ _ h => h) (Or.inl ⟨by rfl, ?_⟩) ?_ ?_
        rotate_left
        · intro w'
          go_simp
          with_reducible rfl
        rotate_left
        · simp only [Act.put, List.setIfInBounds_toArray, List.set_cons_zero, List.set_cons_succ, i64_w, i32_w]
          rfl
        refine pure_ (i := 3) (N := some 39) (v := ?_) (a' := ?_) #[false, true, false, true, false, false, false, false, false, false, false, false, false] rfl rfl (any_of HT_.out (by kernel_rfl)) (fun _ _ _ h => h) (Or.inl ⟨by rfl, ?_⟩) ?_ ?_
        rotate_left
        · intro w'
          go_simp
          with_reducible rfl
        rotate_left
        · simp only [Act.put, List.setIfInBounds_toArray, List.set_cons_zero, List.set_cons_succ, i64_w, i32_w]
          rfl
        refine pure_ (i := 4) (N := some 40) (v := ?_) (a' := ?_) #[false, true, false, true, true, false, false, false, false, false, false, false, false] rfl rfl (any_of HT_.out (by kernel_rfl)) (fun _ _ _ h => h) (Or.inl ⟨by rfl, ?_⟩) ?_ ?_
        rotate_left
        · intro w'
          go_simp
          with_reducible rfl
        rotate_left
        · simp only [Act.put, List.setIfInBounds_toArray, List.set_cons_zero, List.set_cons_succ, i64_w, i32_w]
          rfl
        refine pure_ (i := 5) (N := some 41) (v := ?_) (a' := ?_) #[false, true, false, true, true, true, false, false, false, false, false, false, false] rfl rfl (any_of HT_.out (by kernel_rfl)) (fun _ _ _ h => h) (Or.inl ⟨by rfl, ?_⟩) ?_ ?_
        rotate_left
        · intro w'
          go_simp
          with_reducible rfl
        rotate_left
        · simp only [Act.put, List.setIfInBounds_toArray, List.set_cons_zero, List.set_cons_succ, i64_w, i32_w]
          rfl
        refine pure_ (i := 6) (N := some 42) (v := ?_) (a' := ?_) #[false, true, false, true, true, true, true, false, false, false, false, false, false] rfl rfl (any_of HT_.out (by kernel_rfl)) (fun _ _ _ h => h) (Or.inl ⟨by rfl, ?_⟩) ?_ ?_
        rotate_left
        · intro w'
          go_simp
          with_reducible rfl
        rotate_left
        · simp only [Act.put, List.setIfInBounds_toArray, List.set_cons_zero, List.set_cons_succ, i64_w, i32_w]
          rfl
        refine pure_ (i := 7) (N := some 43) (v := ?_) (a' := ?_) #[false, true, false, true, true, true, true, true, false, false, false, false, false] rfl rfl (any_of HT_.out (by kernel_rfl)) (fun _ _ _ h => h) (Or.inl ⟨by rfl, ?_⟩) ?_ ?_
        rotate_left
        · intro w'
          go_simp
          with_reducible rfl
        rotate_left
        · simp only [Act.put, List.setIfInBounds_toArray, List.set_cons_zero, List.set_cons_succ, i64_w, i32_w]
          rfl
        refine take_ (i := 8) (N := some 44) (v := ?_) (a' := ?_) #[false, true, false, true, true, true, true, true, true, false, false, false, false] rfl rfl (take_ofW HT_.out HW_.out (by kernel_rfl)) (fun _ _ _ h => h) (Or.inl ⟨by rfl, ?_⟩) hHeld ?_ ?_
        rotate_left
        · intro w' hS
          go_simp
          with_reducible rfl
        rotate_left
        · simp only [Act.put, List.setIfInBounds_toArray, List.set_cons_zero, List.set_cons_succ, i64_w, i32_w]
          rfl
        refine join_ (σ := Value × Value × Value) 3 #[true, true, true, true, true, true, true, true, true, true, false, false, false] (fun s => [(36, s.1), (38, s.2.1), (45, s.2.2)]) (fun s w' => Own3 w' V10.heap.size s.2.1 ts ∧ Own3 w' V10.heap.size s.2.2 [(ua, un, uc)] ∧ Below V10.heap.size V10 w') ?_ (fun hcont => ?_)
        rotate_left
        · refine two_ (i := 0) (j := 9) (Ni := some 36) (Nj := some 45) #[true, true, false, true, true, true, true, true, true, false, false, false, false] #[false, true, false, true, true, true, true, true, true, true, false, false, false] rfl rfl rfl rfl (two_of HT_.out (by kernel_rfl)) (by decide) (by decide) ?_ ?_
          · intro K hK
            refine lit3_none_step (w0 := V10) V10.heap.size (by rfl) rfl rfl (Below.refl V10.heap.size V10) (Below.refl V10.heap.size V10).size ?_
            intro va wa oa ba ga na
            refine hK.out _ _ (cell_step HXV10.out ba) (fun hHeld => ?_)
            clear hK K
            refine norm_ (a' := ?_) ?_ ?_
            rotate_left
            · show Act.put _ (some 36) _ = _
              simp only [Act.put, List.setIfInBounds_toArray, List.set_cons_zero, List.set_cons_succ, i64_w, i32_w]
              rfl
            refine two_ (i := 2) (j := 9) (Ni := some 38) (Nj := some 45) #[true, true, true, true, true, true, true, true, true, false, false, false, false] #[true, true, false, true, true, true, true, true, true, true, false, false, false] rfl rfl rfl rfl (two_of HT_.out (by kernel_rfl)) (by decide) (by decide) ?_ ?_
            · intro K hK
              refine app3_step (w0 := V10) V10.heap.size (by rfl) rfl (.tmp 36) (.tmp 37) rfl va [] ts _ _ _ rfl rfl (oa) (Kd.C_below HTV10.out ba) (ba) (ba).size (by simp; omega) ?_
              intro vb wb ob bb gb nb
              refine hK.out _ _ (cell_step HXV10.out bb) (fun hHeld => ?_)
              clear hK K
              refine norm_ (a' := ?_) ?_ ?_
              rotate_left
              · show Act.put _ (some 38) _ = _
                simp only [Act.put, List.setIfInBounds_toArray, List.set_cons_zero, List.set_cons_succ, i64_w, i32_w]
                rfl
              refine one_ (i := 9) (N := some 45) #[true, true, true, true, true, true, true, true, true, true, false, false, false] rfl rfl (one_of HT_.out (by kernel_rfl)) (by decide) (fun K hK => ?_)
              refine lit3_one_step (w0 := V10) V10.heap.size (by rfl) rfl _ rfl (ua, un, uc) rfl (fun _ => True) (trivial) (bb) (bb).size ?_
              intro vc wc oc bc gc nc
              refine hK.out _ _ (cell_step HXV10.out bc) (fun hHeld => ?_)
              clear hK K
              refine norm_ (a' := ?_) ?_ ?_
              rotate_left
              · show Act.put _ (some 45) _ = _
                simp only [Act.put, List.setIfInBounds_toArray, List.set_cons_zero, List.set_cons_succ, i64_w, i32_w]
                rfl
              refine norm_ (a' := putAll _ [(36, va), (38, vb), (45, vc)]) ?_ (hcont (va, vb, vc) wc ⟨own3_all (own3_new ob gc nc), oc, bc⟩)
              rfl
            · intro K hK
              refine lit3_one_step (w0 := V10) V10.heap.size (by rfl) rfl _ rfl (ua, un, uc) rfl (fun k => True ∧ some k ≠ va.ownBlock) (fresh3 oa) (ba) (ba).size ?_
              intro vc wc oc bc gc nc
              refine hK.out _ _ (cell_step HXV10.out bc) (fun hHeld => ?_)
              clear hK K
              refine norm_ (a' := ?_) ?_ ?_
              rotate_left
              · show Act.put _ (some 45) _ = _
                simp only [Act.put, List.setIfInBounds_toArray, List.set_cons_zero, List.set_cons_succ, i64_w, i32_w]
                rfl
              refine one_ (i := 2) (N := some 38) #[true, true, true, true, true, true, true, true, true, true, false, false, false] rfl rfl (one_of HT_.out (by kernel_rfl)) (by decide) (fun K hK => ?_)
              refine app3_step (w0 := V10) V10.heap.size (by rfl) rfl (.tmp 36) (.tmp 37) rfl va [] ts _ _ _ rfl rfl (own3_all (own3_new oa gc nc)) (Kd.C_below HTV10.out bc) (bc) (bc).size (by simp; omega) ?_
              intro vb wb ob bb gb nb
              refine hK.out _ _ (cell_step HXV10.out bb) (fun hHeld => ?_)
              clear hK K
              refine norm_ (a' := ?_) ?_ ?_
              rotate_left
              · show Act.put _ (some 38) _ = _
                simp only [Act.put, List.setIfInBounds_toArray, List.set_cons_zero, List.set_cons_succ, i64_w, i32_w]
                rfl
              refine norm_ (a' := putAll _ [(36, va), (38, vb), (45, vc)]) ?_ (hcont (va, vb, vc) wb ⟨ob, own3_all (Kd.R_after oc gb nb), bb⟩)
              rfl
          · intro K hK
            refine lit3_one_step (w0 := V10) V10.heap.size (by rfl) rfl _ rfl (ua, un, uc) rfl (fun _ => True) (trivial) (Below.refl V10.heap.size V10) (Below.refl V10.heap.size V10).size ?_
            intro vc wc oc bc gc nc
            refine hK.out _ _ (cell_step HXV10.out bc) (fun hHeld => ?_)
            clear hK K
            refine norm_ (a' := ?_) ?_ ?_
            rotate_left
            · show Act.put _ (some 45) _ = _
              simp only [Act.put, List.setIfInBounds_toArray, List.set_cons_zero, List.set_cons_succ, i64_w, i32_w]
              rfl
            refine one_ (i := 0) (N := some 36) #[true, true, false, true, true, true, true, true, true, true, false, false, false] rfl rfl (one_of HT_.out (by kernel_rfl)) (by decide) (fun K hK => ?_)
            refine lit3_none_step (w0 := V10) V10.heap.size (by rfl) rfl rfl (bc) (bc).size ?_
            intro va wa oa ba ga na
            refine hK.out _ _ (cell_step HXV10.out ba) (fun hHeld => ?_)
            clear hK K
            refine norm_ (a' := ?_) ?_ ?_
            rotate_left
            · show Act.put _ (some 36) _ = _
              simp only [Act.put, List.setIfInBounds_toArray, List.set_cons_zero, List.set_cons_succ, i64_w, i32_w]
              rfl
            refine one_ (i := 2) (N := some 38) #[true, true, true, true, true, true, true, true, true, true, false, false, false] rfl rfl (one_of HT_.out (by kernel_rfl)) (by decide) (fun K hK => ?_)
            refine app3_step (w0 := V10) V10.heap.size (by rfl) rfl (.tmp 36) (.tmp 37) rfl va [] ts _ _ _ rfl rfl (oa) (Kd.C_below HTV10.out ba) (ba) (ba).size (by simp; omega) ?_
            intro vb wb ob bb gb nb
            refine hK.out _ _ (cell_step HXV10.out bb) (fun hHeld => ?_)
            clear hK K
            refine norm_ (a' := ?_) ?_ ?_
            rotate_left
            · show Act.put _ (some 38) _ = _
              simp only [Act.put, List.setIfInBounds_toArray, List.set_cons_zero, List.set_cons_succ, i64_w, i32_w]
              rfl
            refine norm_ (a' := putAll _ [(36, va), (38, vb), (45, vc)]) ?_ (hcont (va, vb, vc) wb ⟨ob, own3_all (Kd.R_after (own3_new oc ga na) gb nb), bb⟩)
            rfl
        rintro ⟨va, vb, vc⟩ wd10 ⟨ob, oc, bb⟩
        simp only [putAll, Act.put, List.setIfInBounds_toArray, List.set_cons_zero, List.set_cons_succ]
        obtain ⟨Ac, cc, rfl⟩ := Kd.R_slice oc
        refine one_ (i := 10) (N := some 46) #[true, true, true, true, true, true, true, true, true, true, true, false, false] rfl rfl (one_of HT_.out (by kernel_rfl)) (by decide) (fun K hK => ?_)
        refine app3_step (w0 := V10) V10.heap.size (by rfl) rfl (.tmp 38) (.tmp 45) rfl vb ts [(ua, un, uc)] _ _ _ rfl rfl ob (C_one3 oc) bb bb.size (by simp; omega) ?_
        intro ve we oe be ge ne
        refine hK.out _ _ (cell_step HXV10.out be) (fun hHeld => ?_)
        obtain ⟨Ae, ce, rfl⟩ := Kd.R_slice oe
        clear hK K
        refine norm_ (a' := ?_) ?_ ?_
        rotate_left
        · show Act.put _ (some 46) _ = _
          simp only [Act.put, List.setIfInBounds_toArray, List.set_cons_zero, List.set_cons_succ, i64_w, i32_w]
          rfl
        refine one_ (i := 11) (N := some 47) #[true, true, true, true, true, true, true, true, true, true, true, true, false] rfl rfl (one_of HT_.out (by kernel_rfl)) (by decide) (fun K hK => ?_)
        have hAll : All2 we (ts ++ [((ua, un, uc) : T3)]) (keys ++ [key1]) := All2.append (All2.below be (HAV10.out)) ⟨(HL10.out).below be, trivial⟩
        have hC := C_of_k3 (Kd.R_reads' oe).2.2 hAll
        have hlq : (ts ++ [((ua, un, uc) : T3)]).length = ((keys ++ [key1])).length := All2.length hAll
        refine goes_ Try.func9 (by kernel_rfl) rfl #[.slice Ae ((keys ++ [key1])).length ce] (by rfl) rfl rfl (by rw [← hlq]; simp only [List.map_toArray, List.map_cons, List.map_nil]; rfl) ?_
        refine (bloom_Build.calls Ae ce ((keys ++ [key1])) (buildB ((keys ++ [key1]))) we hC (by rw [← hlq]; exact (Kd.R_reads' oe).2.1) HQ10.out).mono ?_
        rintro e wf10 ⟨vf, rfl, of, bf⟩
        refine ⟨_, rfl, ?_⟩
        have bg := below_then be be.size bf
        refine hK.out _ _ (cell_step HXV10.out bg) (fun hHeld => ?_)
        obtain ⟨Af10, cf10, rfl⟩ := Kd.R_slice of
        clear hK K
        refine norm_ (a' := ?_) ?_ ?_
        rotate_left
        · show Act.put _ (some 47) _ = _
          simp only [Act.put, List.setIfInBounds_toArray, List.set_cons_zero, List.set_cons_succ, i64_w, i32_w]
          rfl
        refine pure_ (i := 12) (N := some 7) (v := ?_) (a' := ?_) #[true, true, true, true, true, true, true, true, true, true, true, true, true] rfl rfl (any_of HT_.out (by kernel_rfl)) (fun _ _ _ h => h) (Or.inl ⟨by rfl, ?_⟩) ?_ ?_
        rotate_left
        · intro w'
          go_simp
          with_reducible rfl
        rotate_left
        · simp only [Act.put, List.setIfInBounds_toArray, List.set_cons_zero, List.set_cons_succ, i64_w, i32_w]
          rfl
        refine done_ (done_of HT_.out (by kernel_rfl)) ?_
        have HF10 := Lib.hid (Kd.R_reads' of)
        have HBF10 := Lib.hid (below_then HBV10.out HBV10.out.size bg)
        have HS10 := Lib.hid (below_then HSD10.out HSD10.out.size bg)
        clear HT_ HW_ hHeld ob oc bb oe be ge ne hAll hC hlq of bf bg HXV10 HTV10 HAV10
        go_wp2_with fail
        have hK1 := bloom_Build.calls (some ad0) c keys (buildB keys) wf10 (Kd.C_below HR.out HBF10.out) HC.out HQK.out
        rw [← HN.out] at hK1
        refine hK1.mono ?_
        rintro e wg ⟨vg, rfl, og, bg⟩
        obtain ⟨Ag, cg, rfl⟩ := Kd.R_slice og
        have HG := Lib.hid (Kd.R_reads' og)
        have HBG := Lib.hid (below_then HBF10.out HBF10.out.size bg)
        have HSG := Lib.hid (below_then HS10.out HS10.out.size bg)
        have HTG := Lib.hid bg
        have HSX := Lib.hid (below_then HS9.out HS9.out.size HSG.out)
        have hrev := All2.reverse (All2.below HBG.out HA.out)
        have hbs : bs = ts.reverse := by rw [HBS.out, List.drop_zero]
        rw [← hbs] at hrev
        have hl2 : bs.length = keys.reverse.length := hrev.length
        have hK2 := bloom_Build.calls Ab cb keys.reverse (buildB keys.reverse) wg (C_of_k3 (Kd.C_below (Kd.R_reads' HOB.out).2.2 HSX.out) hrev) (by rw [← hl2]; exact (Kd.R_reads' HOB.out).2.1) HQR.out
        rw [← hl2] at hK2
        have HK2 := Lib.hid hK2
        clear hK1 hK2 hrev hbs hl2 og bg
        go_wp2_with fail
        refine HK2.out.mono ?_
        rintro e wh ⟨vh, rfl, oh, bh⟩
        obtain ⟨Ah, ch, rfl⟩ := Kd.R_slice oh
        have HH := Lib.hid (Kd.R_reads' oh)
        have HGH := Lib.hid (Kd.C_below HG.out.2.2 bh)
        have HBH := Lib.hid (below_then HBG.out HBG.out.size bh)
        have HSH := Lib.hid (below_then HSG.out HSG.out.size bh)
        have HTH := Lib.hid (below_then HTG.out HTG.out.size bh)
        clear HK2 oh bh
        go_wp2_with fail
        refine (F.sawyerref02_Same.calls Ag cg (buildB keys) Ah ch (buildB keys.reverse) true wh HGH.out HG.out.2.1 HH.out.2.2 HH.out.2.1 HSM.out).mono ?_
        rintro e wi ⟨rfl, hd⟩
        have bi := hd.below
        have HBI := Lib.hid (below_then HBH.out HBH.out.size bi)
        have HSI := Lib.hid (below_then HSH.out HSH.out.size bi)
        have HTI := Lib.hid (below_then HTH.out HTH.out.size bi)
        skip
        clear hd bi
        go_wp2_with fail
        refine (F.sawyerref02_Same.calls Af9 cf9 (buildB (keys ++ [key0])) Af10 cf10 (buildB (keys ++ [key1])) true wi (Kd.C_below HF9.out.2.2 HSI.out) HF9.out.2.1 (Kd.C_below HF10.out.2.2 HTI.out) HF10.out.2.1 HSE.out).mono ?_
        rintro e wj ⟨rfl, hd⟩
        have HBJ := Lib.hid (below_then HBI.out HBI.out.size hd.below)
        clear hd
        go_wp2
        go_ret
        exact ⟨rfl, HBJ.out⟩
        -- END
    | succ j =>
      rw [show (((j + 1 : Nat) : Int) - 1) = (j : Int) by omega]
      obtain ⟨ad, cs, e, hcl, hM, hcell⟩ := Kd.C_get (Kd.C_below HT.out HBB.out) (none, 0, 0) (j : Int) (by omega) (by omega)
      subst e
      have hcs : cs = [enc3 (ts.getD j (none, 0, 0))] := by have h : cs = [enc3 (ts.getD (j : Int).toNat (none, 0, 0))] := hM; rwa [Int.toNat_natCast] at h
      subst hcs
      have hcx := hcell 0 _ rfl
      rw [Int.toNat_natCast, show k3.sz = 1 from rfl, Nat.mul_one, Nat.add_zero] at hcx
      obtain ⟨t, ht⟩ : ∃ t, t = ts.getD j (none, 0, 0) := ⟨_, rfl⟩
      rw [← ht] at hcx hcell hM
      have HTT := Lib.hid ht
      obtain ⟨ta, tn, tc⟩ := t
      have hcx' : wx.cell? (ad.add j) = some (.slice ta tn tc) := hcx
      obtain ⟨b2, hb2'⟩ : ∃ b2, b2 = bs ++ [((ta, tn, tc) : T3)] := ⟨_, rfl⟩
      have HBB2 := Lib.hid hb2'
      clear hcx hb2'
      have pj : (0 : Int) ≤ (j : Int) := by omega
      have pn : (j : Int) < (n : Int) := by omega
      clear hcell hM ht
      go_wp2_with (first | (at_builtin; refine app_one3 (w0 := w) w.heap.size rfl (.tmp 16) (.tmp 21) rfl (.slice Ab bs.length cb) bs (ta, tn, tc) rfl rfl HOB.out HBB.out hsz (by have := HBL.out; omega) ?_; intro v2 w2 ho2 hb2 hg2 _; rw [← HBB2.out] at ho2; obtain ⟨A2, c2, rfl⟩ := Kd.R_slice ho2; have HO2 := Lib.hid ho2; have HB2 := Lib.hid hb2; clear ho2 hb2 hg2) | fail)
      go_roundw
      case measure => show ((j : Int) - 1 + 1).toNat < ((j : Int) + 1).toNat; omega
      case rel =>
        refine ⟨j, A2, c2, b2, by omega, by go_num, rfl, ?_, HO2.out, HB2.out⟩
        rw [HBB2.out, HBS.out, List.drop_eq_getElem_cons (show j < ts.length by omega), List.reverse_cons, HTT.out, List.getD_eq_getElem?_getD, List.getElem?_eq_getElem (show j < ts.length by omega)]
        rfl
def sawyerlaw07_BloomOrder.f (l0 : List (List Int)) : Option Bool := if l0.length * 24 ≤ 140737488351232 ∧ ∀ r ∈ l0, r.length ≤ 140737488351232 then some true else none
theorem sawyerlaw07_BloomOrder.calls (A0 : Option Addr) (c0 : Nat) (l0 : List (List Int)) (r : Bool) (w : World) (hr0 : Kd.C (Kd.slice 5 (Kd.int .u8)) w A0 l0.length l0) (hc0 : l0.length ≤ c0) (h : sawyerlaw07_BloomOrder.f l0 = some r) :
    Calls Try.prog 5 #[.slice A0 l0.length c0] w fun e w' => e = .returned (.bool r) ∧ Below w.heap.size w w' := by
  unfold sawyerlaw07_BloomOrder.f at h
  split at h
  case isFalse => cases h
  rename_i hok
  obtain rfl := Option.some.inj h
  exact order_walk A0 c0 l0 w hr0 hc0 hok.1 hok.2
theorem Pure.BloomOrder (l : List (List Int)) (y1 : l.length * 24 ≤ 140737488351232) (y2 : ∀ r ∈ l, r.length ≤ 140737488351232) (hb : ∀ r ∈ l, ∀ x ∈ r, 0 ≤ x ∧ x < 256) : sawyerlaw07_BloomOrder.f l = some true := if_pos ⟨y1, y2⟩
end Go.Proofs.Ytojabcadoajbjaa
