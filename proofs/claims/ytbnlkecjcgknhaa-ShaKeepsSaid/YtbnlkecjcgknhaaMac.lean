/-
  sha.Mac: for every key and text that are not too long, what it answers is the code of the plain text Sha.
-/
import Derived.Test.YtbnlkecjcgknhaaMacSpec
import Derived.Test.YtbnlkecjcgknhaaSum
import Derived.Test.YtbnlkecjcgknhaaHex
namespace Go.Proofs.Ytbnlkecjcgknhaa
open Go.RowKit Go.Proofs.YtbnlkecjcgknhaaW.PrintWords Go.Proofs.YtbnlkecjcgknhaaW.PrintLast Go.Proofs.YtbnlkecjcgknhaaW.PrintMore
set_option linter.unusedVariables false
set_option linter.unusedSimpArgs false

def sha_Mac.f (l0 l1 : List Int) : Option ByteArray := if Sha.macOk l0 l1 = true then some (Sha.mac l0 l1) else none

def sha_Mac.T3 : Bool × List (List Nat × List Nat) := (true, [([], []), ([], []), ([0, 0], [0]), ([1, 2, 0, 1, 2], [1])])
def sha_Mac.B3 : List Nat := [0, 0, 1, 7]
theorem sha_Mac.tab3 : rtab .any (opsOf Try.f13 3) = sha_Mac.T3 := by kernel_rfl
theorem sha_Mac.bits3 : waitsOk sha_Mac.T3.2 sha_Mac.B3 = true := by kernel_rfl

/-- a row of bytes that lies apart from another -/
abbrev Apart8 (W : World) (base : Nat) (u v : Value) (xs : List Int) : Prop := Kd.R (Kd.int .u8) 5 W base (fun k => True ∧ some k ≠ v.ownBlock) u xs

theorem sum_some (l : List Int) (h : Sha.ok l = true) : sha_Sum.f l = some (Sha.sum l) := if_pos h
theorem mac_some (l0 l1 : List Int) (h : Sha.macOk l0 l1 = true) : ∃ d m, m = Sha.mac l0 l1 ∧ d.size = 32 ∧ sha_Sum.f (Sha.inn l0 ++ l1) = some d ∧ sha_Sum.f (Sha.outr l0 ++ bytesOf d) = some m :=
  ⟨_, _, rfl, Sha.sum_size _, sum_some _ (Sha.ok_inn l0 l1 h), sum_some _ (Sha.ok_out l0 l1 h)⟩

/-- a row of bytes in a world where all below stands as it stood -/

theorem own8_below {W w1 : World} {base : Nat} {v : Value} {xs : List Int} (h : Own8 W base v xs) (hb : Below W.heap.size W w1) : Own8 w1 base v xs :=
  Kd.R_mono (Kd.R_move (Kd.R_bound h) (fun k hk => hb.block k hk.2.2.1)) (fun _ _ => trivial)

/-- the row, and so much of it turned -/
def Sha.pre (c : Int) (i : Nat) (k : List Int) : List Int := (k.take i).map (Sha.x8 c) ++ k.drop i
theorem Sha.pre_length (c : Int) (i : Nat) (k : List Int) : (Sha.pre c i k).length = k.length := by simp [Sha.pre]; omega
theorem Sha.pre_get (c : Int) (i : Nat) (k : List Int) (h : i < k.length) : (Sha.pre c i k).getD i 0 = k.getD i 0 := by
  simp only [Sha.pre, List.getD_eq_getElem?_getD]
  rw [List.getElem?_append_right (by simp; omega)]
  simp
  rw [show i + (i - min i k.length) = i by omega]
theorem Sha.pre_step (c : Int) (i : Nat) (k : List Int) (h : i < k.length) : (Sha.pre c i k).set i (Sha.x8 c (k.getD i 0)) = Sha.pre c (i + 1) k := by
  simp only [Sha.pre]
  rw [List.set_append_right _ _ (by simp; omega), take_snoc k i h, List.map_append, List.append_assoc]
  congr 1
  simp only [List.length_map, List.length_take]
  rw [show i - min i k.length = 0 by omega, List.drop_eq_getElem_cons h]
  rfl
theorem Sha.pad_is (k : List Int) (h : k.length ≤ 64) : k.take (min k.length (List.replicate 64 (0 : Int)).length) ++ (List.replicate 64 (0 : Int)).drop (min k.length (List.replicate 64 (0 : Int)).length) = k ++ List.replicate (64 - k.length) 0 := by
  rw [List.length_replicate, Nat.min_eq_left h, List.take_length, List.drop_replicate]

theorem cell8 {W : World} {base g cap : Nat} {ok : Nat → Prop} {xs : List Int} (HO : Kd.R (Kd.int .u8) 5 W base ok (.slice (some ⟨g, 0, none⟩) 64 cap) xs) (i : Nat) (hi : i < 64) : W.cell? ⟨g, i, none⟩ = some (.int .u8 (xs.getD i 0)) ∧ W.frozen? ⟨g, i, none⟩ = false := by
  have := Kd.R_celln (0 : Int) HO (i : Int) (by omega) (by omega)
  simpa [rdOf] using this
theorem put8 {W : World} {base g cap : Nat} {ok : Nat → Prop} {xs : List Int} (HO : Kd.R (Kd.int .u8) 5 W base ok (.slice (some ⟨g, 0, none⟩) 64 cap) xs) (i : Nat) (y : Int) : Kd.R (Kd.int .u8) 5 (W.setCell ⟨g, i, none⟩ (.int .u8 y)) base ok (.slice (some ⟨g, 0, none⟩) 64 cap) (xs.set i y) ∧ W.grownBy (W.setCell ⟨g, i, none⟩ (.int .u8 y)) (some g) := by
  have := Kd.R_putg HO (i : Int) y
  simp only [Int.toNat_natCast] at this
  exact this

set_option maxHeartbeats 8000000 in
set_option maxRecDepth 100000 in
theorem sha_Mac.calls (A0 : Option Addr) (c0 : Nat) (l0 : List Int) (A1 : Option Addr) (c1 : Nat) (l1 : List Int) (r : ByteArray) (w : World) (hr0 : Kd.C (Kd.int .u8) w A0 l0.length l0) (hc0 : l0.length ≤ c0) (hr1 : Kd.C (Kd.int .u8) w A1 l1.length l1) (hc1 : l1.length ≤ c1) (h : sha_Mac.f l0 l1 = some r) :
    Calls Try.prog 13 #[.slice A0 l0.length c0, .slice A1 l1.length c1] w fun e w' => e = .returned (.string r) ∧ Below w.heap.size w w' := by
  unfold sha_Mac.f at h
  split at h
  case isFalse => cases h
  rename_i hok
  obtain rfl := Option.some.inj h
  clear h
  have OK := Lib.hid hok
  have HR0 := Lib.hid hr0
  have HR1 := Lib.hid hr1
  have OK0 := Lib.hid ((Sha.macOk_iff l0 l1).1 hok).1
  have HL1 := Lib.hid ((Sha.macOk_iff l0 l1).1 hok).2.2
  obtain ⟨d, m, hm, hd, hs1, hs2⟩ := mac_some l0 l1 hok
  rw [← hm]
  have HD := Lib.hid hd
  have HS1 := Lib.hid hs1
  have HS2 := Lib.hid hs2
  clear hm hd hs1 hs2
  clear hok hr0 hr1
  have hcv := fun w => Lib.run_convert_string_bytes (P := Try.prog) w 9 24 5 (Sha.sum l0) Try.underlying9 Try.underlying24 Try.underlying5
  go_enter Try.func13, Try.ntmps13
  by_cases hlong : 64 < l0.length
  go_wp2_with fail
  refine (sha_Sum.calls A0 c0 l0 (Sha.sum l0) w HR0.out hc0 (sum_some _ OK0.out)).mono ?_
  rintro e w1 ⟨rfl, hb1⟩
  have HB1 := Lib.hid hb1
  clear hb1
  go_wp2
  have hrk := rd_conv w1 (Sha.sum l0) (by rw [Sha.sum_size]; omega)
  have hbw := Lib.bytesWorld_below w1 5 (Sha.sum l0)
  have hcp : grownCap w1 (Sha.sum l0).size 0 5 ≥ (Sha.sum l0).size := grownCap_ge _ _ _ _
  have hkk : Sha.key1 l0 = bytesOf (Sha.sum l0) := if_pos hlong
  have hsz : (Sha.sum l0).size = (Sha.key1 l0).length := by rw [hkk, bytesOf_length]
  rw [← hkk] at hrk
  have HBW : Hid (Below w.heap.size w (Lib.bytesWorld w1 5 (Sha.sum l0))) := Lib.hid (below_then HB1.out HB1.out.size hbw)
  clear hcv hbw HB1 hkk
  generalize grownCap w1 (Sha.sum l0).size 0 5 = ck at *
  generalize Lib.bytesWorld w1 5 (Sha.sum l0) = W at *
  rw [hsz] at hrk hcp ⊢
  generalize (some (⟨w1.heap.size, 0, none⟩ : Addr)) = Ak at *
  generalize Value.string (Sha.sum l0) = u12 at *
  clear hsz
  rotate_left
  have hkk : Sha.key1 l0 = l0 := if_neg hlong
  go_wp2
  obtain ⟨Ak, hAk⟩ : ∃ Ak, Ak = A0 := ⟨_, rfl⟩
  obtain ⟨ck, hck⟩ : ∃ ck, ck = c0 := ⟨_, rfl⟩
  obtain ⟨W, hW⟩ : ∃ W, W = w := ⟨_, rfl⟩
  have hrk : Kd.C (Kd.int .u8) W Ak (Sha.key1 l0).length (Sha.key1 l0) := by rw [hkk, hAk, hW]; exact HR0.out
  have hcp : ck ≥ (Sha.key1 l0).length := by rw [hkk, hck]; exact hc0
  have HBW : Hid (Below w.heap.size w W) := Lib.hid (by rw [hW]; exact Below.refl _ _)
  rw [← hAk, ← hck, ← hW]
  rw [show l0.length = (Sha.key1 l0).length by rw [hkk]]
  clear hAk hck hW hcv hkk
  all_goals
    have HRK := Lib.hid (Kd.C_drew hrk)
    have HR1W := Lib.hid (Kd.C_drew (Kd.C_below HR1.out HBW.out))
    have HBV := Lib.hid (below_drew1 HBW.out)
    have hkl := Sha.key1_length l0
    clear hrk HBW HR0 HR1 OK0
    refine start_ (n := 4) (S := fun w' => True) (ds := []) #[false, false, false, false] (by kernel_rfl) rfl rfl trivial (fun hHeld => ?_); refine with_tabW sha_Mac.tab3 sha_Mac.bits3 (fun HT_ HW_ => ?_)
    generalize World.drew W = V at *
    refine join_ (σ := Value × Value) 0 #[true, true, true, true] (fun s => [(14, s.1), (15, s.2), (5, s.1), (6, s.2)]) (fun s w' => Apart8 w' V.heap.size s.1 s.2 (List.replicate 64 0) ∧ Apart8 w' V.heap.size s.2 s.1 (List.replicate 64 0) ∧ Below V.heap.size V w') ?_ (fun hcont => ?_)
    rotate_left
    · refine two_ (i := 0) (j := 1) (Ni := some 14) (Nj := some 15) #[true, false, false, false] #[false, true, false, false] rfl rfl rfl rfl (two_of HT_.out (by kernel_rfl)) (by decide) (by decide) ?_ ?_
      ·
        intro K hK
        refine Kd.R_make_step (Kd.int .u8) (w0 := V) V.heap.size 5 (by rfl) rfl 24 (.const (.int .i64 64)) (.const (.int .i64 64)) rfl 64 rfl rfl Try.underlying24 (.int .u8 0) 1 infoB rfl (by decide) (by decide) (0 : Int) (ok := fun _ => True) (okp := fun _ => False) (show Kd.M (Kd.int .u8) _ _ _ 0 [.int .u8 0] from rfl) (fun _ h => h.elim) trivial (by decide) (by decide) (Below.refl _ _) (Nat.le_refl _) ?_
        intro va wa hoa hba hga hna
        refine hK.out _ _ trivial (fun hHeld => ?_)
        clear hK K
        refine norm_ (a' := ?_) ?_ ?_
        rotate_left
        · show Act.put _ (some 14) _ = _
          simp only [Act.put, List.setIfInBounds_toArray, List.set_cons_zero, List.set_cons_succ, i64_w, i32_w]
          rfl
        refine pure_ (i := 2) (N := some 5) (v := ?_) (a' := ?_) #[true, false, true, false] rfl rfl (any_of HT_.out (by kernel_rfl)) (fun _ _ _ h => h) (Or.inl ⟨by rfl, ?_⟩) ?_ ?_
        rotate_left
        · intro w'
          go_simp
          with_reducible rfl
        rotate_left
        · simp only [Act.put, List.setIfInBounds_toArray, List.set_cons_zero, List.set_cons_succ, i64_w, i32_w]
          rfl
        refine one_ (i := 1) (N := some 15) #[true, true, true, false] rfl rfl (one_of HT_.out (by kernel_rfl)) (by decide) (fun K hK => ?_)
        refine Kd.R_make_step (Kd.int .u8) (w0 := V) V.heap.size 5 (by rfl) rfl 24 (.const (.int .i64 64)) (.const (.int .i64 64)) rfl 64 rfl rfl Try.underlying24 (.int .u8 0) 1 infoB rfl (by decide) (by decide) (0 : Int) (ok := fun k => True ∧ some k ≠ va.ownBlock) (okp := fun _ => False) (show Kd.M (Kd.int .u8) _ _ _ 0 [.int .u8 0] from rfl) (fun _ h => h.elim) ⟨trivial, fun e => by have := Kd.R_lt hoa _ e.symm; omega⟩ (by decide) (by decide) hba hba.size ?_
        intro vb wb hob hbb hgb hnb
        refine hK.out _ _ trivial (fun hHeld => ?_)
        clear hK K
        refine norm_ (a' := ?_) ?_ ?_
        rotate_left
        · show Act.put _ (some 15) _ = _
          simp only [Act.put, List.setIfInBounds_toArray, List.set_cons_zero, List.set_cons_succ, i64_w, i32_w]
          rfl
        refine pure_ (i := 3) (N := some 6) (v := ?_) (a' := ?_) #[true, true, true, true] rfl rfl (any_of HT_.out (by kernel_rfl)) (fun _ _ _ h => h) (Or.inl ⟨by rfl, ?_⟩) ?_ ?_
        rotate_left
        · intro w'
          go_simp
          with_reducible rfl
        rotate_left
        · simp only [Act.put, List.setIfInBounds_toArray, List.set_cons_zero, List.set_cons_succ, i64_w, i32_w]
          rfl
        refine norm_ (a' := putAll _ [(14, va), (15, vb), (5, va), (6, vb)]) ?_ (hcont (va, vb) wb ⟨(Kd.R_after (v := .slice none 0 0) (v1 := vb) (Kd.R_apart_nil hoa) hgb (.inr hnb)), hob, hbb⟩)
        rfl
      ·
        intro K hK
        refine Kd.R_make_step (Kd.int .u8) (w0 := V) V.heap.size 5 (by rfl) rfl 24 (.const (.int .i64 64)) (.const (.int .i64 64)) rfl 64 rfl rfl Try.underlying24 (.int .u8 0) 1 infoB rfl (by decide) (by decide) (0 : Int) (ok := fun _ => True) (okp := fun _ => False) (show Kd.M (Kd.int .u8) _ _ _ 0 [.int .u8 0] from rfl) (fun _ h => h.elim) trivial (by decide) (by decide) (Below.refl _ _) (Nat.le_refl _) ?_
        intro va wa hoa hba hga hna
        refine hK.out _ _ trivial (fun hHeld => ?_)
        clear hK K
        refine norm_ (a' := ?_) ?_ ?_
        rotate_left
        · show Act.put _ (some 15) _ = _
          simp only [Act.put, List.setIfInBounds_toArray, List.set_cons_zero, List.set_cons_succ, i64_w, i32_w]
          rfl
        refine one_ (i := 0) (N := some 14) #[true, true, false, false] rfl rfl (one_of HT_.out (by kernel_rfl)) (by decide) (fun K hK => ?_)
        refine Kd.R_make_step (Kd.int .u8) (w0 := V) V.heap.size 5 (by rfl) rfl 24 (.const (.int .i64 64)) (.const (.int .i64 64)) rfl 64 rfl rfl Try.underlying24 (.int .u8 0) 1 infoB rfl (by decide) (by decide) (0 : Int) (ok := fun k => True ∧ some k ≠ va.ownBlock) (okp := fun _ => False) (show Kd.M (Kd.int .u8) _ _ _ 0 [.int .u8 0] from rfl) (fun _ h => h.elim) ⟨trivial, fun e => by have := Kd.R_lt hoa _ e.symm; omega⟩ (by decide) (by decide) hba hba.size ?_
        intro vb wb hob hbb hgb hnb
        refine hK.out _ _ trivial (fun hHeld => ?_)
        clear hK K
        refine norm_ (a' := ?_) ?_ ?_
        rotate_left
        · show Act.put _ (some 14) _ = _
          simp only [Act.put, List.setIfInBounds_toArray, List.set_cons_zero, List.set_cons_succ, i64_w, i32_w]
          rfl
        refine pure_ (i := 2) (N := some 5) (v := ?_) (a' := ?_) #[true, true, true, false] rfl rfl (any_of HT_.out (by kernel_rfl)) (fun _ _ _ h => h) (Or.inl ⟨by rfl, ?_⟩) ?_ ?_
        rotate_left
        · intro w'
          go_simp
          with_reducible rfl
        rotate_left
        · simp only [Act.put, List.setIfInBounds_toArray, List.set_cons_zero, List.set_cons_succ, i64_w, i32_w]
          rfl
        refine pure_ (i := 3) (N := some 6) (v := ?_) (a' := ?_) #[true, true, true, true] rfl rfl (any_of HT_.out (by kernel_rfl)) (fun _ _ _ h => h) (Or.inl ⟨by rfl, ?_⟩) ?_ ?_
        rotate_left
        · intro w'
          go_simp
          with_reducible rfl
        rotate_left
        · simp only [Act.put, List.setIfInBounds_toArray, List.set_cons_zero, List.set_cons_succ, i64_w, i32_w]
          rfl
        refine norm_ (a' := putAll _ [(14, vb), (15, va), (5, vb), (6, va)]) ?_ (hcont (vb, va) wb ⟨hob, (Kd.R_after (v := .slice none 0 0) (v1 := vb) (Kd.R_apart_nil hoa) hgb (.inr hnb)), hbb⟩)
        rfl
    rintro ⟨v1, v2⟩ W3 ⟨ho1, ho2, hb3⟩
    refine done_ (done_of HT_.out (by kernel_rfl)) ?_
    clear HT_ HW_ hHeld
    simp only [putAll, Act.put, List.setIfInBounds_toArray, List.set_cons_zero, List.set_cons_succ]
    obtain ⟨g1, k1, e1, gb1, gl1, _⟩ := Kd.R_form ho1 (by simp)
    obtain ⟨g2, k2, e2, gb2, gl2, _⟩ := Kd.R_form ho2 (by simp)
    rw [List.length_replicate] at e1 e2
    subst e1
    subst e2
    have HO1 := Lib.hid ho1
    have HO2 := Lib.hid ho2
    have HB3 := Lib.hid hb3
    clear ho1 ho2 hb3
    go_wp2_with (first | (refine Kd.R_copy (0 : Int) (w0 := V) V.heap.size rfl (.tmp 16) (.tmp 17) 24 24 5 rfl Try.underlying24 (by kernel_rfl) (.slice (some ⟨g1, 0, none⟩) 64 k1) (List.replicate 64 0) (Sha.key1 l0) Ak _ ck _ rfl rfl HO1.out (Kd.C_below HRK.out HB3.out) HB3.out HB3.out.size ?_; intro W4 ho4 hb4 hg4; have HO4 := Lib.hid ho4; have HB4 := Lib.hid hb4; have HO5 := Lib.hid (Kd.R_after (v1 := .slice (some ⟨g1, 0, none⟩) 64 k1) HO2.out hg4 (.inl rfl)); clear ho4 hb4 hg4) | (refine Kd.R_copy (0 : Int) (w0 := V) V.heap.size rfl (.tmp 19) (.tmp 20) 24 24 5 rfl Try.underlying24 (by kernel_rfl) (.slice (some ⟨g2, 0, none⟩) 64 k2) (List.replicate 64 0) (Sha.key1 l0) Ak _ ck _ rfl rfl HO5.out (Kd.C_below HRK.out HB4.out) HB4.out HB4.out.size ?_; intro W5 ho6 hb6 hg6; have HO6 := Lib.hid ho6; have HB6 := Lib.hid hb6; have HO7 := Lib.hid (Kd.R_after (v1 := .slice (some ⟨g2, 0, none⟩) 64 k2) HO4.out hg6 (.inl rfl)); clear ho6 hb6 hg6) | fail)
    have HP1 : Hid (Apart8 W5 V.heap.size (.slice (some ⟨g1, 0, none⟩) 64 k1) (.slice (some ⟨g2, 0, none⟩) 64 k2) (Sha.key64 l0)) := Lib.hid (by have := HO7.out; rw [Sha.pad_is _ hkl] at this; exact this)
    have HP2 : Hid (Apart8 W5 V.heap.size (.slice (some ⟨g2, 0, none⟩) 64 k2) (.slice (some ⟨g1, 0, none⟩) 64 k1) (Sha.key64 l0)) := Lib.hid (by have := HO6.out; rw [Sha.pad_is _ hkl] at this; exact this)
    have HKL := Lib.hid (Sha.key64_length l0)
    clear HO1 HO2 HB3 HO4 HO5 HB4 HO6 HO7
    generalize hkk : Sha.key64 l0 = kk at *
    have HKK := Lib.hid hkk
    clear hkk hkl hlong
    go_loopw [22] (fun k wr => ∃ (i : Nat), i ≤ 64 ∧ k = .int .i64 i ∧ Apart8 wr V.heap.size (.slice (some ⟨g1, 0, none⟩) 64 k1) (.slice (some ⟨g2, 0, none⟩) 64 k2) (Sha.pre 54 i kk) ∧ Apart8 wr V.heap.size (.slice (some ⟨g2, 0, none⟩) 64 k2) (.slice (some ⟨g1, 0, none⟩) 64 k1) (Sha.pre 92 i kk) ∧ Below V.heap.size V wr) (fun k _ => 64 - (intOf k).toNat)
    case atStart => exact ⟨0, by omega, by go_num, HP1.out, HP2.out, HB6.out⟩
    case round =>
      clear HP1 HP2 HB6
      obtain ⟨i, hi, rfl, hp1, hp2, hb⟩ := hrel
      obtain ⟨wx, rfl⟩ : ∃ wx, wx = wr := ⟨_, rfl⟩
      have HB := Lib.hid hb
      by_cases hlt : i < 64
      · have hl : i < kk.length := by rw [HKL.out]; exact hlt
        obtain ⟨x, hx⟩ : ∃ x, x = kk.getD i 0 := ⟨_, rfl⟩
        obtain ⟨hx1, hf1⟩ := cell8 hp1 i hlt
        rw [Sha.pre_get _ _ _ hl, ← hx] at hx1
        obtain ⟨hq1, hg1⟩ := put8 hp1 i (Sha.x8 54 x)
        have hp3 := Kd.R_after (v1 := .slice (some ⟨g1, 0, none⟩) 64 k1) hp2 hg1 (.inl rfl)
        obtain ⟨hx2, hf2⟩ := cell8 hp3 i hlt
        rw [Sha.pre_get _ _ _ hl, ← hx] at hx2
        obtain ⟨hq2, hg2⟩ := put8 hp3 i (Sha.x8 92 x)
        have hq3 := Kd.R_after (v1 := .slice (some ⟨g2, 0, none⟩) 64 k2) hq1 hg2 (.inl rfl)
        rw [hx, Sha.pre_step _ _ _ hl, ← hx] at hq2 hq3
        have hb2 := (HB.out.grown hg1 HB.out.size (fun k e => by cases e; exact gb1)).grown hg2 (by have := HB.out.size; have := hg1.size; omega) (fun k e => by cases e; exact gb2)
        have HQ2 := Lib.hid hq2
        have HQ3 := Lib.hid hq3
        have HBB := Lib.hid hb2
        unfold Sha.x8 at hx2 hf2
        clear hp1 hp2 hb hq1 hg1 hp3 hq2 hg2 hq3 hb2 hx hl
        go_wp2
        refine ⟨⟨i + 1, by omega, by go_num, HQ3.out, HQ2.out, HBB.out⟩, ?_⟩
        simp [intOf]
        omega
      · obtain rfl : i = 64 := by omega
        have hin : Sha.pre 54 64 kk = Sha.inn l0 := by
          unfold Sha.pre Sha.inn
          rw [← HKL.out, List.take_length, List.drop_length, List.append_nil, HKK.out]
        have hou : Sha.pre 92 64 kk = Sha.outr l0 := by
          unfold Sha.pre Sha.outr
          rw [← HKL.out, List.take_length, List.drop_length, List.append_nil, HKK.out]
        rw [hin] at hp1
        rw [hou] at hp2
        have HI := Lib.hid hp1
        have HU := Lib.hid hp2
        have hbs := hb.size
        have HLI := Lib.hid (Sha.inn_length l0)
        have HLO := Lib.hid (Sha.outr_length l0)
        clear hp1 hp2 hb hin hou HKK HKL
        go_wp2_with (first | (at_builtin; refine app_row (w0 := V) V.heap.size rfl (.tmp 39) (.tmp 40) rfl (.slice (some ⟨g1, 0, none⟩) 64 k1) (Sha.inn l0) l1 A1 _ c1 rfl rfl (Kd.R_mono HI.out (fun _ _ => trivial)) (Kd.C_below HR1W.out HB.out) HB.out hbs (by have := HLI.out; have := HL1.out; omega) ?_; intro v3 w3 ho3 hb3 hg3 hat3; obtain ⟨q3, hq3⟩ : ∃ q, q = Sha.inn l0 ++ l1 := ⟨_, rfl⟩; rw [← hq3] at ho3; have HS3 : Hid (sha_Sum.f q3 = some d) := Lib.hid (by rw [hq3]; exact HS1.out); clear hq3; have HU3 := Lib.hid (Kd.R_after HU.out hg3 hat3); have HO3 := Lib.hid ho3; have HB3 := Lib.hid hb3; obtain ⟨A3, c3, rfl⟩ := Kd.R_slice ho3; clear ho3 hb3 hg3 hat3) | fail)
        refine (sha_Sum.calls A3 c3 q3 d w3 (Kd.R_reads' HO3.out).2.2 (Kd.R_reads' HO3.out).2.1 HS3.out).mono ?_
        rintro e w4 ⟨rfl, hb4⟩
        have HU4 : Hid (Own8 w4 V.heap.size (.slice (some ⟨g2, 0, none⟩) 64 k2) (Sha.outr l0)) := Lib.hid (own8_below (Kd.R_mono HU3.out (fun _ _ => trivial)) hb4)
        have HB4 : Hid (Below V.heap.size V w4) := Lib.hid (below_then HB3.out HB3.out.size hb4)
        have hs4 := HB4.out.size
        clear hb4 HU3 HO3 HB3 HI HU
        go_wp2_with (first | (at_builtin; refine app_str (w0 := V) V.heap.size rfl (.tmp 38) (.tmp 42) rfl (.slice (some ⟨g2, 0, none⟩) 64 k2) (Sha.outr l0) d rfl rfl HU4.out HB4.out hs4 (by have := HD.out; have := HLO.out; omega) ?_; intro v5 w5 ho5 hb5 hg5; obtain ⟨q5, hq5⟩ : ∃ q, q = Sha.outr l0 ++ bytesOf d := ⟨_, rfl⟩; rw [← hq5] at ho5; have HS5 : Hid (sha_Sum.f q5 = some m) := Lib.hid (by rw [hq5]; exact HS2.out); clear hq5; have HO5 := Lib.hid ho5; have HB5 := Lib.hid hb5; obtain ⟨A5, c5, rfl⟩ := Kd.R_slice ho5; clear ho5 hb5 hg5) | fail)
        refine (sha_Sum.calls A5 c5 q5 m w5 (Kd.R_reads' HO5.out).2.2 (Kd.R_reads' HO5.out).2.1 HS5.out).mono ?_
        rintro e w6 ⟨rfl, hb6⟩
        have HB6 := Lib.hid (below_then HBV.out HBV.out.size (below_then HB5.out HB5.out.size hb6))
        clear hb6
        go_wp2
        go_ret
        exact ⟨rfl, HB6.out⟩
end Go.Proofs.Ytbnlkecjcgknhaa
