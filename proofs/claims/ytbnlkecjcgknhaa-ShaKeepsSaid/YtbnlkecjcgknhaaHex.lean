/-
  sha.Hex: two digits for each byte of a text whose digits are not too many.
-/
import Derived.Test.YtbnlkecjcgknhaaBytes
import Derived.Test.YtbnlkecjcgknhaaWTab
import Derived.Test.YtbnlkecjcgknhaaWRepsOne
import Derived.Lib.ConvBytes
import Derived.Lib.AtoiErrMem
namespace Go.Proofs.Ytbnlkecjcgknhaa
open Go.RowKit Go.Proofs.YtbnlkecjcgknhaaW.PrintWords Go.Proofs.YtbnlkecjcgknhaaW.PrintLast Go.Proofs.YtbnlkecjcgknhaaW.PrintMore
set_option linter.unusedVariables false
set_option linter.unusedSimpArgs false

/-- the digits -/
def Sha.dg : ByteArray := ⟨#[48, 49, 50, 51, 52, 53, 54, 55, 56, 57, 97, 98, 99, 100, 101, 102]⟩
/-- the digits of bytes -/
def Sha.hex (l : List Int) : List Int := l.flatMap fun x => [bt Sha.dg (x / 16), bt Sha.dg (x % 16)]
theorem Sha.hex_snoc (l : List Int) (x : Int) : Sha.hex (l ++ [x]) = Sha.hex l ++ [bt Sha.dg (x / 16), bt Sha.dg (x % 16)] := by simp [Sha.hex]
theorem Sha.hex_length (l : List Int) : (Sha.hex l).length = 2 * l.length := by
  induction l with
  | nil => rfl
  | cons x l ih => simp [Sha.hex] at ih ⊢; omega

/-- what '[]byte(s)' lays is the text's bytes -/
theorem rd_conv (W : World) (s : ByteArray) (hs : s.size ≤ 9223372036854775807) : Kd.C (Kd.int .u8) (Lib.bytesWorld W 5 s) (some ⟨W.heap.size, 0, none⟩) s.size (bytesOf s) := by
  refine Kd.C_of_reads (d := (0 : Int)) (h1 := fun _ => rfl) ⟨bytesOf_length s, hs, fun _ => ⟨_, rfl, fun j hj => ?_⟩⟩
  rw [add_plain, Lib.bytesWorld_cell _ _ _ _ (by simpa using hj)]
  simp [bytesOf, hj]

theorem and15 (x : Int) (h0 : 0 ≤ x) (h1 : x < 256) : bits BinOp.and IntKind.u8 x 15 = x % 16 := by
  obtain ⟨n, rfl⟩ : ∃ n : Nat, x = n := ⟨x.toNat, by omega⟩
  have hn : n < 256 := by omega
  have h : ∀ m : Fin 256, bits BinOp.and IntKind.u8 ((m.val : Nat) : Int) 15 = ((m.val : Nat) : Int) % 16 := by decide +kernel
  exact h ⟨n, hn⟩

theorem take_snoc (l : List Int) (i : Nat) (h : i < l.length) : l.take (i + 1) = l.take i ++ [l.getD i 0] := by
  rw [List.take_succ_eq_append_getElem h, List.getD_eq_getElem?_getD, List.getElem?_eq_getElem h]
  rfl

def sha_Hex.f (a0 : ByteArray) : Option ByteArray := if 2 * a0.size < 140737488355328 then some (strOfNums (Sha.hex (bytesOf a0))) else none

def sha_Hex.T5 : Bool × List (List Nat × List Nat) := (true, [([], []), ([], []), ([1], [1]), ([2], [2]), ([], []), ([4], [4]), ([5], [5]), ([3, 6], [3, 6]), ([0, 7], [0, 7]), ([8, 8, 0, 1, 2, 3, 4, 5, 6, 7, 8], [0, 8])])
def sha_Hex.B5 : List Nat := [0, 0, 2, 6, 0, 16, 48, 126, 255, 511]
theorem sha_Hex.tab5 : rtab .any (opsOf Try.f9 5) = sha_Hex.T5 := by kernel_rfl
theorem sha_Hex.bits5 : waitsOk sha_Hex.T5.2 sha_Hex.B5 = true := by kernel_rfl

set_option maxHeartbeats 4000000 in
set_option maxRecDepth 100000 in
theorem sha_Hex.calls (a0 : ByteArray) (r : ByteArray) (w : World) (h : sha_Hex.f a0 = some r) :
    Calls Try.prog 9 #[.string a0] w fun e w' => e = .returned (.string r) ∧ Below w.heap.size w w' := by
  unfold sha_Hex.f at h
  split at h
  case isFalse => cases h
  rename_i hlen
  obtain rfl := Option.some.inj h
  clear h
  obtain ⟨bs, hbs⟩ : ∃ bs, bs = bytesOf a0 := ⟨_, rfl⟩
  have hbl : bs.length = a0.size := by rw [hbs, bytesOf_length]
  have HRG : Hid (∀ x ∈ bs, 0 ≤ x ∧ x < 256) := Lib.hid (by rw [hbs]; exact bytesOf_range a0)
  have hcv := fun w => Lib.run_convert_string_bytes (P := Try.prog) w 9 24 5 a0 Try.underlying9 Try.underlying24 Try.underlying5
  go_enter Try.func9, Try.ntmps9
  go_wp2
  have F1 : Hid (Kd.C (Kd.int .u8) (Lib.bytesWorld w 5 a0) (some ⟨w.heap.size, 0, none⟩) a0.size bs) := Lib.hid (by rw [hbs]; exact rd_conv w a0 (by omega))
  have F2 : Hid (Below w.heap.size w (Lib.bytesWorld w 5 a0)) := Lib.hid (Lib.bytesWorld_below w _ a0)
  have F3 : w.heap.size < (Lib.bytesWorld w 5 a0).heap.size := by rw [Lib.bytesWorld_size]; omega
  have HBL := Lib.hid hbl
  have HBS := Lib.hid hbs
  have hc1 : grownCap w a0.size 0 5 ≥ a0.size := grownCap_ge _ _ _ _
  clear hcv hbl hbs
  generalize grownCap w a0.size 0 5 = cp at *
  generalize Lib.bytesWorld w 5 a0 = w1 at *
  generalize hn : a0.size = n at *
  clear hn
  go_loopw [3, 9] (fun v k wr => ∃ (i : Nat) (A : Option Addr) (c : Nat) (q : List Int), i ≤ n ∧ k = .int .i64 i ∧ v = .slice A q.length c ∧ q = Sha.hex (bs.take i) ∧ Own8 wr w1.heap.size (.slice A q.length c) q ∧ Below w1.heap.size w1 wr) (fun _ k _ => n - (intOf k).toNat)
  case atStart => exact ⟨0, none, 0, [], by omega, by go_num, rfl, by simp [Sha.hex], Kd.R_nil _ _ _ _ _, Below.refl _ _⟩
  case round =>
    obtain ⟨i, A, c, q, hi, rfl, rfl, hq, ho, hb⟩ := hrel
    obtain ⟨wx, rfl⟩ : ∃ wx, wx = wr := ⟨_, rfl⟩
    have hql : q.length = 2 * i := by rw [hq, Sha.hex_length, List.length_take, HBL.out]; omega
    have HQ := Lib.hid hq
    have HQL := Lib.hid hql
    have HO := Lib.hid ho
    have HB := Lib.hid hb
    have hsz := hb.size
    clear hq hql ho hb
    by_cases hlt : i < n
    · obtain ⟨x, hx⟩ : ∃ x, x = bs.getD i 0 := ⟨_, rfl⟩
      have HX := Lib.hid hx
      have hxr : 0 ≤ x ∧ x < 256 := by
        rw [hx, List.getD_eq_getElem?_getD, List.getElem?_eq_getElem (by rw [HBL.out]; exact hlt)]
        exact HRG.out _ (List.getElem_mem _)
      have hcell : wx.cell? ⟨w.heap.size, i, none⟩ = some (.int .u8 x) := by
        obtain ⟨_, _, h3⟩ := Kd.reads_of_C (d := (0 : Int)) (Kd.C_below F1.out HB.out)
        obtain ⟨ad, e, hc⟩ := h3 (by omega)
        cases e
        have := hc i hlt
        rw [add_plain] at this
        rw [this, hx]
      clear hx
      go_wp2_with fail
      have hand := and15 x hxr.1 hxr.2
      have p1 : (0 ≤ x / 16) = True := eq_true (by omega)
      have q1 : (x / 16 < 16) = True := eq_true (by omega)
      have d1 : ∀ h, (((⟨#[48, 49, 50, 51, 52, 53, 54, 55, 56, 57, 97, 98, 99, 100, 101, 102]⟩ : ByteArray)[(x / 16).toNat]'h).toNat : Int) = bt Sha.dg (x / 16) := bt_at Sha.dg (x / 16)
      have p2 : (0 ≤ x % 16) = True := eq_true (by omega)
      have q2 : (x % 16 < 16) = True := eq_true (by omega)
      have d2 : ∀ h, (((⟨#[48, 49, 50, 51, 52, 53, 54, 55, 56, 57, 97, 98, 99, 100, 101, 102]⟩ : ByteArray)[(x % 16).toNat]'h).toNat : Int) = bt Sha.dg (x % 16) := bt_at Sha.dg (x % 16)
      refine start_ (n := 10) (S := fun w' => True) (ds := []) #[false, false, false, false, false, false, false, false, false, false] (by kernel_rfl) rfl rfl trivial (fun hHeld => ?_); refine with_tabW sha_Hex.tab5 sha_Hex.bits5 (fun HT_ HW_ => ?_)
      have HOd := Lib.hid (Kd.R_drew HO.out)
      have HBd := Lib.hid (below_drew1 HB.out)
      have hszd : w1.heap.size ≤ wx.drew.heap.size := HBd.out.size
      clear HO HB hsz
      generalize wx.drew = wd at HOd HBd hHeld hszd ⊢
      refine pure_ (i := 0) (N := some 13) (v := ?_) (a' := ?_) #[true, false, false, false, false, false, false, false, false, false] rfl rfl (any_of HT_.out (by kernel_rfl)) (fun _ _ _ h => h) (Or.inl ⟨by rfl, ?_⟩) ?_ ?_
      rotate_left
      · intro w'
        go_simp
        with_reducible rfl
      rotate_left
      · simp only [Act.put, List.setIfInBounds_toArray, List.set_cons_zero, List.set_cons_succ, i64_w, i32_w]
        rfl
      refine pure_ (i := 1) (N := some 14) (v := ?_) (a' := ?_) #[true, true, false, false, false, false, false, false, false, false] rfl rfl (any_of HT_.out (by kernel_rfl)) (fun _ _ _ h => h) (Or.inl ⟨by rfl, ?_⟩) ?_ ?_
      rotate_left
      · intro w'
        go_simp
        with_reducible rfl
      rotate_left
      · simp only [Act.put, List.setIfInBounds_toArray, List.set_cons_zero, List.set_cons_succ, i64_w, i32_w]
        rfl
      refine pure_ (i := 4) (N := some 17) (v := ?_) (a' := ?_) #[true, true, false, false, true, false, false, false, false, false] rfl rfl (any_of HT_.out (by kernel_rfl)) (fun _ _ _ h => h) (Or.inl ⟨by rfl, ?_⟩) ?_ ?_
      rotate_left
      · intro w'
        go_simp
        with_reducible rfl
      rotate_left
      · simp only [Act.put, List.setIfInBounds_toArray, List.set_cons_zero, List.set_cons_succ, i64_w, i32_w]
        rfl
      refine pure_ (i := 2) (N := some 15) (v := ?_) (a' := ?_) #[true, true, true, false, true, false, false, false, false, false] rfl rfl (any_of HT_.out (by kernel_rfl)) (fun _ _ _ h => h) (Or.inl ⟨by rfl, ?_⟩) ?_ ?_
      rotate_left
      · intro w'
        go_simp
        with_reducible rfl
      rotate_left
      · simp only [Act.put, List.setIfInBounds_toArray, List.set_cons_zero, List.set_cons_succ, i64_w, i32_w]
        rfl
      refine pure_ (i := 5) (N := some 18) (v := ?_) (a' := ?_) #[true, true, true, false, true, true, false, false, false, false] rfl rfl (any_of HT_.out (by kernel_rfl)) (fun _ _ _ h => h) (Or.inl ⟨by rfl, ?_⟩) ?_ ?_
      rotate_left
      · intro w'
        go_simp
        with_reducible rfl
      rotate_left
      · simp only [Act.put, List.setIfInBounds_toArray, List.set_cons_zero, List.set_cons_succ, i64_w, i32_w]
        rfl
      refine take_ (i := 3) (N := some 16) (v := ?_) (a' := ?_) #[true, true, true, true, true, true, false, false, false, false] rfl rfl (take_ofW HT_.out HW_.out (by kernel_rfl)) (fun _ _ _ h => h) (Or.inl ⟨by rfl, ?_⟩) hHeld ?_ ?_
      rotate_left
      · intro w' _
        go_simp
        with_reducible rfl
      rotate_left
      · simp only [Act.put, List.setIfInBounds_toArray, List.set_cons_zero, List.set_cons_succ, i64_w, i32_w]
        rfl
      refine take_ (i := 6) (N := some 19) (v := ?_) (a' := ?_) #[true, true, true, true, true, true, true, false, false, false] rfl rfl (take_ofW HT_.out HW_.out (by kernel_rfl)) (fun _ _ _ h => h) (Or.inl ⟨by rfl, ?_⟩) hHeld ?_ ?_
      rotate_left
      · intro w' _
        go_simp
        with_reducible rfl
      rotate_left
      · simp only [Act.put, List.setIfInBounds_toArray, List.set_cons_zero, List.set_cons_succ, i64_w, i32_w]
        rfl
      refine one_ (i := 7) (N := some 20) #[true, true, true, true, true, true, true, true, false, false] rfl rfl (one_of HT_.out (by kernel_rfl)) (by decide) (fun K hK => ?_)
      refine Kd.R_lit_step (Kd.int .u8) _ 5 ?hg (N := 20) ?hd (xs := ([bt Sha.dg (x / 16), bt Sha.dg (x % 16)] : List Int)) (inner := [.int .u8 (bt Sha.dg (x / 16)), .int .u8 (bt Sha.dg (x % 16))]) (ok := fun _ => True) (okp := fun _ => True) ?hr ?hp (fun _ hk => hk) trivial (Below.refl _ _) (Nat.le_refl _) (by simp) ?_; (case hd => rfl); (case hg => rfl); (case hr => first | (go_simp; done) | (go_simp; rfl)); (case hp => exact (Reps.one (show Kd.M (Kd.int .u8) _ _ _ (bt Sha.dg (x / 16)) [.int .u8 (bt Sha.dg (x / 16))] from rfl) (Reps.one (show Kd.M (Kd.int .u8) _ _ _ (bt Sha.dg (x % 16)) [.int .u8 (bt Sha.dg (x % 16))] from rfl) (Reps.none _ _))))
      intro v1 w2 ho2 hb2 hg2 _
      have HO2 := Lib.hid ho2
      have HB2 := Lib.hid hb2
      have HG2 := Lib.hid hg2
      clear ho2 hb2 hg2
      refine hK.out _ _ trivial (fun hHeld => ?_)
      clear hK K
      refine norm_ (a' := ?_) ?_ ?_
      rotate_left
      · show Act.put _ (some 20) _ = _
        simp only [Act.put, List.setIfInBounds_toArray, List.set_cons_zero, List.set_cons_succ, i64_w, i32_w]
        rfl
      refine one_ (i := 8) (N := some 21) #[true, true, true, true, true, true, true, true, true, false] rfl rfl (one_of HT_.out (by kernel_rfl)) (by decide) (fun K hK => ?_)
      obtain ⟨A1, c1, rfl⟩ := Kd.R_slice HO2.out
      refine Kd.R_append_rows_step (Kd.int .u8) (w0 := w1) w1.heap.size (by rfl) (.tmp 13) (.tmp 20) 24 5 (.int .u8 0) 1 rfl Try.underlying24 infoB rfl (by decide) (by omega) (.slice A q.length c) q [bt Sha.dg (x / 16), bt Sha.dg (x % 16)] _ _ _ (fun _ => True) (fun _ => False) rfl rfl (Kd.R_mono (Kd.R_elder' HOd.out (Kd.R_base HO2.out) HB2.out) (fun _ _ => trivial)) (Kd.R_reads' HO2.out).2.2 (fun _ _ h => h) (fun _ h => h.elim) (fun _ _ => trivial) (below_step HBd.out HB2.out) (below_size (below_step HBd.out HB2.out)) (by have := HQL.out; simp; omega) ?_
      intro v2 w3 ho3 hb3 hg3 _
      have HO3 := Lib.hid ho3
      have HB3 := Lib.hid hb3
      clear ho3 hb3 hg3
      refine hK.out _ _ trivial (fun hHeld => ?_)
      clear hK K
      refine norm_ (a' := ?_) ?_ ?_
      rotate_left
      · show Act.put _ (some 21) _ = _
        simp only [Act.put, List.setIfInBounds_toArray, List.set_cons_zero, List.set_cons_succ, i64_w, i32_w]
        rfl
      refine pure_ (i := 9) (N := some 3) (v := ?_) (a' := ?_) #[true, true, true, true, true, true, true, true, true, true] rfl rfl (any_of HT_.out (by kernel_rfl)) (fun _ _ _ h => h) (Or.inl ⟨by rfl, ?_⟩) ?_ ?_
      rotate_left
      · intro w'
        go_simp
        with_reducible rfl
      rotate_left
      · simp only [Act.put, List.setIfInBounds_toArray, List.set_cons_zero, List.set_cons_succ, i64_w, i32_w]
        rfl
      refine done_ (done_of HT_.out (by kernel_rfl)) ?_
      go_wp2
      go_roundw
      case rel =>
        obtain ⟨A', c', rfl⟩ := Kd.R_slice HO3.out
        refine ⟨i + 1, A', c', _, by omega, by go_num, rfl, ?_, HO3.out, HB3.out⟩
        rw [HQ.out, take_snoc bs i (by rw [HBL.out]; exact hlt), Sha.hex_snoc, ← HX.out]
      case measure => simp [intOf]; omega
    · obtain rfl : i = n := by omega
      have hcv := own_string (P := Try.prog) Try.underlying24 Try.underlying5 Try.underlying9 (Kd.own_of_R HO.out)
      go_wp2
      go_ret
      refine ⟨?_, below_then F2.out (Nat.le_of_lt F3) HB.out⟩
      show Ending.returned (.string (strOfNums q)) = _
      rw [HQ.out, ← HBL.out, List.take_length, HBS.out]
end Go.Proofs.Ytbnlkecjcgknhaa
