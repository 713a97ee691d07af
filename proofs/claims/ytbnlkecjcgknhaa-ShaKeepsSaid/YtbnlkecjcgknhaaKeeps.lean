/-
  ShaKeeps answers true for every key and text that are not too long.
-/
import Derived.Test.YtbnlkecjcgknhaaMark
import Derived.Test.YtbnlkecjcgknhaaWGuard
namespace Go.Proofs.Ytbnlkecjcgknhaa
open Go.RowKit Go.Proofs.YtbnlkecjcgknhaaW.PrintWords Go.Proofs.YtbnlkecjcgknhaaW.PrintLast Go.Proofs.YtbnlkecjcgknhaaW.PrintMore
set_option linter.unusedVariables false
set_option linter.unusedSimpArgs false

def sawyerlaw01_ShaKeeps.f (l0 l1 : List Int) : Option Bool := if Sha.macOk l0 l1 = true ∧ l0.length ≤ 140737488354000 then some true else none

theorem Sha.key64_again (k : List Int) : Sha.key64 (Sha.key64 k) = Sha.key64 k := by
  have h := Sha.key64_length k
  have h1 : Sha.key1 (Sha.key64 k) = Sha.key64 k := if_neg (by omega)
  rw [Sha.key64, h1, h, Nat.sub_self, List.replicate_zero, List.append_nil]
theorem Sha.mac_again (k b : List Int) : Sha.mac (Sha.key64 k) b = Sha.mac k b := by
  unfold Sha.mac Sha.outr Sha.inn
  rw [Sha.key64_again]
theorem Sha.macOk_again (k b : List Int) (h : Sha.macOk k b = true) : Sha.macOk (Sha.key64 k) b = true := by
  obtain ⟨h1, h2, h3⟩ := (Sha.macOk_iff k b).1 h
  exact (Sha.macOk_iff _ _).2 ⟨Sha.ok_of _ (Sha.key64_range k (Sha.ok_range h1).1) (by rw [Sha.key64_length]; omega), h2, h3⟩
/-- a cut that goes beyond the length, within the capacity -/
theorem cut_up {P : Program} (t e : TypeId) {i : TypeInfo} (ht : P.underlying t = some (.slice e)) (hi : P.info? e = some i) (A : Option Addr) (n c : Nat) (j : Int) (h0 : 0 ≤ j) (hm : j ≤ c) :
    ∀ W : World, (Instr.slice t (.slice A n c) none (some (.int .i64 j)) none).run P W = .ok (.slice A j.toNat c) W := by
  intro W
  have hel : P.elem t = e := by simp [Program.elem, ht]
  have hu : P.underlying t = some (.slice (P.elem t)) := by rw [hel]; exact ht
  have ha : (A.map fun x => x.add 0) = A := by cases A <;> simp [Addr.add]
  rw [run_slice_h W t A n c hu .i64 j h0 hm, hel]
  simp [sizeOf, typeInfo, hi, sliced, Result.andThen, ha]
theorem cuts8 (A : Option Addr) (n c : Nat) (hc : n + 1 ≤ c) : (∀ W : World, (Instr.slice 24 (.slice A (n + 1) c) none (some (.int .i64 (n : Int))) none).run Try.prog W = .ok (.slice A n c) W) ∧ (∀ W : World, (Instr.slice 24 (.slice A n c) none (some (.int .i64 ((n : Int) + 1))) none).run Try.prog W = .ok (.slice A (n + 1) c) W) := by
  obtain ⟨i5, hi5, hz5, hs5, hb5⟩ := info_parts infoB
  refine ⟨fun W => ?_, fun W => ?_⟩
  · have := cut_up (P := Try.prog) 24 5 Try.underlying24 hi5 A (n + 1) c (n : Int) (by omega) (by omega) W
    rwa [Int.toNat_natCast] at this
  · have := cut_up (P := Try.prog) 24 5 Try.underlying24 hi5 A n c ((n : Int) + 1) (by omega) (by omega) W
    rwa [show ((n : Int) + 1).toNat = n + 1 by omega] at this
/-- a row with a nought behind it: its form, the row without the nought, the nought's cell -/
theorem tail_nought {W : World} {base : Nat} {v : Value} {l : List Int} (h : Own8 W base v (l ++ [0])) : ∃ g c, v = .slice (some ⟨g, 0, none⟩) (l.length + 1) c ∧ l.length + 1 ≤ c ∧ Own8 W base (.slice (some ⟨g, 0, none⟩) l.length c) l ∧ W.cell? ⟨g, l.length, none⟩ = some (.int .u8 0) := by
  obtain ⟨g, c, e, _, _, _⟩ := Kd.R_form h (by simp)
  have hl : (l ++ [(0 : Int)]).length = l.length + 1 := by simp
  rw [hl] at e
  subst e
  refine ⟨g, c, rfl, ?_, ?_, ?_⟩
  · have := (Kd.R_reads' h).2.1
    exact this
  · have := Kd.R_take h (m := l.length) (by simp)
    rwa [List.take_left] at this
  · have := (Kd.R_celln (0 : Int) h (l.length : Int) (by omega) (by omega)).1
    rw [Int.toNat_natCast] at this
    rw [this]
    simp [rdOf]

set_option maxHeartbeats 8000000 in
set_option maxRecDepth 100000 in
theorem sawyerlaw01_ShaKeeps.calls (A0 : Option Addr) (c0 : Nat) (l0 : List Int) (A1 : Option Addr) (c1 : Nat) (l1 : List Int) (r : Bool) (w : World) (hr0 : Kd.C (Kd.int .u8) w A0 l0.length l0) (hc0 : l0.length ≤ c0) (hr1 : Kd.C (Kd.int .u8) w A1 l1.length l1) (hc1 : l1.length ≤ c1) (h : sawyerlaw01_ShaKeeps.f l0 l1 = some r) :
    Calls Try.prog 6 #[.slice A0 l0.length c0, .slice A1 l1.length c1] w fun e w' => e = .returned (.bool r) ∧ Below w.heap.size w w' := by
  unfold sawyerlaw01_ShaKeeps.f at h
  split at h
  case isFalse => cases h
  rename_i hok'
  obtain ⟨hok, hlen0⟩ := hok'
  obtain rfl := Option.some.inj h
  clear h
  have hlen1 := ((Sha.macOk_iff l0 l1).1 hok).2.2
  have HR0 := Lib.hid hr0
  have HR1 := Lib.hid hr1
  have OK0 := Lib.hid ((Sha.macOk_iff l0 l1).1 hok).1
  obtain ⟨m, hm⟩ : ∃ m, m = Sha.mac l0 l1 := ⟨_, rfl⟩
  have HM := Lib.hid (show sha_Mac.f l0 l1 = some m from (if_pos hok).trans (by rw [hm]))
  have HM2 := Lib.hid (show sha_Mac.f (Sha.key64 l0) l1 = some m from (if_pos (Sha.macOk_again _ _ hok)).trans (by rw [hm, Sha.mac_again]))
  have hm32 : (m.size : Int) = 32 := by rw [hm]; unfold Sha.mac; rw [Sha.sum_size]; rfl
  clear hm hok hr0 hr1
  have hcv := fun w => Lib.run_convert_string_bytes (P := Try.prog) w 9 24 5 (Sha.sum l0) Try.underlying9 Try.underlying24 Try.underlying5
  have HCV := Lib.hid hcv
  clear hcv
  go_enter Try.func6, Try.ntmps6
  go_wp2_with (first
    | (refine lit_none (w0 := w) (N := 10) w.heap.size rfl rfl rfl (Below.refl _ _) (Nat.le_refl _) ?_; intro v1 w1 ho1 hb1 _; have HO1 := Lib.hid ho1; have HB1 := Lib.hid hb1; clear ho1 hb1)
    | (at_builtin; refine app_row (w0 := w) w.heap.size rfl (.tmp 10) (.tmp 11) rfl v1 [] l0 A0 _ c0 rfl rfl HO1.out (Kd.C_below HR0.out HB1.out) HB1.out HB1.out.size (by simp; omega) ?_; intro v2 w2 ho2 hb2 _ _; rw [List.nil_append] at ho2; have hs2 := hb2.size; have HO2 := Lib.hid ho2; have HB2 := Lib.hid hb2; clear ho2 hb2)
    | (at_builtin; refine app_one (w0 := w) w.heap.size rfl (.tmp 12) (.tmp 13) rfl v2 l0 0 rfl rfl HO2.out HB2.out hs2 (by omega) ?_; intro v3 w3 ho3 hb3 _ _; obtain ⟨g3, c3, rfl, hc3, ho4, hx3⟩ := tail_nought ho3; have HO3 := Lib.hid ho4; have HB3 := Lib.hid hb3; have HX3 := Lib.hid hx3; obtain ⟨hs3, hs4⟩ := cuts8 (some ⟨g3, 0, none⟩) l0.length c3 hc3; have hw3 := hb3.size; clear ho3 hb3 ho4 hx3)
    | (refine lit_none (w0 := w3) (N := 18) w3.heap.size rfl rfl rfl (Below.refl _ _) (Nat.le_refl _) ?_; intro v4 w4 ho4 hb4 _; have HO4 := Lib.hid ho4; have HB4 := Lib.hid hb4; clear ho4 hb4)
    | (at_builtin; refine app_row (w0 := w3) w3.heap.size rfl (.tmp 18) (.tmp 19) rfl v4 [] l1 A1 _ c1 rfl rfl HO4.out (Kd.C_below (Kd.C_below HR1.out HB3.out) HB4.out) HB4.out HB4.out.size (by simp; omega) ?_; intro v5 w5 ho5 hb5 _ _; rw [List.nil_append] at ho5; have hs5 := hb5.size; have HO5 := Lib.hid ho5; have HB5 := Lib.hid hb5; clear ho5 hb5)
    | (at_builtin; refine app_one (w0 := w3) w3.heap.size rfl (.tmp 20) (.tmp 21) rfl v5 l1 0 rfl rfl HO5.out HB5.out hs5 (by omega) ?_; intro v6 w6 ho6 hb6 _ _; obtain ⟨g6, c6, rfl, hc6, ho7, hx6⟩ := tail_nought ho6; have HO6 := Lib.hid ho7; have HB6 := Lib.hid hb6; have HX6 := Lib.hid hx6; obtain ⟨hs6, hs7⟩ := cuts8 (some ⟨g6, 0, none⟩) l1.length c6 hc6; clear ho6 hb6 ho7 hx6)
    | fail)
  have HK3 := Lib.hid (own8_below HO3.out HB6.out)
  have HBW := Lib.hid (below_then HB3.out HB3.out.size HB6.out)
  refine (sha_Mac.calls (some ⟨g3, 0, none⟩) c3 l0 (some ⟨g6, 0, none⟩) c6 l1 m w6 (Kd.R_reads' HK3.out).2.2 (Kd.R_reads' HK3.out).2.1 (Kd.R_reads' HO6.out).2.2 (Kd.R_reads' HO6.out).2.1 HM.out).mono ?_
  rintro e w7 ⟨rfl, hb7⟩
  have HB7 := Lib.hid (below_then HBW.out HBW.out.size hb7)
  have HK7 := Lib.hid (own8_below HK3.out hb7)
  have HK8 := Lib.hid (own8_below HO6.out hb7)
  have hx3 := pw_cell_below hb7 (pw_cell_below HB6.out HX3.out)
  have hx6 := pw_cell_below hb7 HX6.out
  have hcv1 := Kd.C_string (P := Try.prog) (c := c3) Try.underlying24 Try.underlying5 Try.underlying9 (Kd.R_reads' HK7.out).2.2
  have hcv2 := Kd.C_string (P := Try.prog) (c := c0) Try.underlying24 Try.underlying5 Try.underlying9 (Kd.C_below HR0.out HB7.out)
  have hcv3 := Kd.C_string (P := Try.prog) (c := c6) Try.underlying24 Try.underlying5 Try.underlying9 (Kd.R_reads' HK8.out).2.2
  have hcv4 := Kd.C_string (P := Try.prog) (c := c1) Try.underlying24 Try.underlying5 Try.underlying9 (Kd.C_below HR1.out HB7.out)
  generalize strOfNums l0 = s0 at *
  generalize strOfNums l1 = s1 at *
  clear hb7 HB3 HB6 HBW HK3 HO3 HO6 HX3 HX6 HO1 HO2 HB1 HB2 HO4 HB4 HO5 HB5
  have hw7 := HB7.out.size
  by_cases hlong : 64 < l0.length
  all_goals
   go_wp2_with (first
    | (refine lit_none (w0 := w) (N := 65) w.heap.size rfl rfl rfl HB7.out hw7 ?_; intro v8 w8 ho8 hb8 _; have HO8 := Lib.hid ho8; have HB8 := Lib.hid hb8; have hw8 := hb8.size; clear ho8 hb8)
    | (at_builtin; refine app_row (w0 := w) w.heap.size rfl (.tmp 65) (.tmp 66) rfl v8 [] l0 A0 _ c0 rfl rfl HO8.out (Kd.C_below HR0.out HB8.out) HB8.out hw8 (by simp; omega) ?_; intro v9 w9 ho9 hb9 _ _; rw [List.nil_append] at ho9; obtain ⟨A9, c9, rfl⟩ := Kd.R_slice ho9; have HO9 := Lib.hid ho9; have HB9 := Lib.hid hb9; clear ho9 hb9)
    | fail)
  refine (sha_Sum.calls A0 c0 l0 (Sha.sum l0) w9 (Kd.C_below HR0.out HB9.out) hc0 (sum_some _ OK0.out)).mono ?_
  rintro e w10 ⟨rfl, hb10⟩
  have HB10 := Lib.hid (below_then HB9.out HB9.out.size hb10)
  have hcv := HCV.out
  clear hb10 HO9 HB9
  go_wp2
  have hmk := marked_conv w10 (Sha.sum l0) (by rw [Sha.sum_size]; decide)
  have hbw := Lib.bytesWorld_below w10 5 (Sha.sum l0)
  have hkk : Sha.key1 l0 = bytesOf (Sha.sum l0) := if_pos hlong
  have hsz : (Sha.sum l0).size = (Sha.key1 l0).length := by rw [hkk, bytesOf_length]
  rw [← hkk] at hmk
  have HBW : Hid (Below w.heap.size w (Lib.bytesWorld w10 5 (Sha.sum l0))) := Lib.hid (below_then HB10.out HB10.out.size hbw)
  have hw10 := HB10.out.size
  clear hcv hbw hkk HB10 HCV
  generalize grownCap w10 (Sha.sum l0).size 0 5 = ck at *
  generalize Lib.bytesWorld w10 5 (Sha.sum l0) = W at *
  rw [hsz] at hmk ⊢
  generalize (some (⟨w10.heap.size, 0, none⟩ : Addr)) = Ak at *
  generalize Value.string (Sha.sum l0) = u72 at *
  generalize Value.slice A0 l0.length c0 = u71 at *
  have HK : Hid (Any8 W w.heap.size (.slice Ak (Sha.key1 l0).length ck) (Sha.key1 l0)) := Lib.hid (.inr (by obtain ⟨g, cap, lo, hi, cur, e, hbs, rest⟩ := hmk; exact ⟨g, cap, lo, hi, cur, e, Nat.le_trans hw10 hbs, rest⟩))
  clear hsz hmk
  rotate_left
  have hkk : Sha.key1 l0 = l0 := if_neg hlong
  obtain ⟨Ak, hAk⟩ : ∃ Ak, Ak = A9 := ⟨_, rfl⟩
  obtain ⟨ck, hck⟩ : ∃ ck, ck = c9 := ⟨_, rfl⟩
  obtain ⟨W, hW⟩ : ∃ W, W = w9 := ⟨_, rfl⟩
  have HBW : Hid (Below w.heap.size w W) := Lib.hid (by rw [hW]; exact HB9.out)
  have HK : Hid (Any8 W w.heap.size (.slice Ak (Sha.key1 l0).length ck) (Sha.key1 l0)) := Lib.hid (.inl (by rw [hkk, hAk, hck, hW]; exact HO9.out))
  rw [← hAk, ← hck, ← hW]
  rw [show (Value.slice Ak l0.length ck) = .slice Ak (Sha.key1 l0).length ck by rw [hkk]]
  clear hAk hck hW hkk HO9 HB9 HCV
  all_goals
    have hkl := Sha.key1_length l0
    obtain ⟨kk, hke⟩ : ∃ kk, kk = Sha.key1 l0 := ⟨_, rfl⟩
    have H64 : Hid (Sha.key64 l0 = kk ++ List.replicate (64 - kk.length) 0) := Lib.hid (by rw [hke]; rfl)
    rw [← hke] at hkl HK ⊢
    clear hke
    obtain ⟨wx, rfl⟩ : ∃ wx, wx = W := ⟨_, rfl⟩
    go_loopw [9] (fun v wr => ∃ (j : Nat) (A : Option Addr) (c : Nat) (q : List Int), v = .slice A q.length c ∧ q = kk ++ List.replicate j 0 ∧ kk.length + j ≤ 64 ∧ Any8 wr w.heap.size (.slice A q.length c) q ∧ Below w.heap.size w wr) (fun v _ => match v with | .slice _ n _ => 64 - n | _ => 0)
    case atStart => exact ⟨0, Ak, ck, kk, rfl, by simp, by omega, HK.out, HBW.out⟩
    case round =>
      obtain ⟨j, A, c, q, rfl, hq, hj, hk, hb⟩ := hrel
      obtain ⟨wz, rfl⟩ : ∃ wz, wz = wr := ⟨_, rfl⟩
      have hql : q.length = kk.length + j := by rw [hq]; simp
      have HQ := Lib.hid hq
      have HQL := Lib.hid hql
      have HKZ := Lib.hid hk
      have HBZ := Lib.hid hb
      have hwz := hb.size
      clear hk hb hq
      by_cases hlt : q.length < 64
      · clear hql
        go_wp2_with (first | (at_builtin; refine app_any (w0 := w) w.heap.size rfl (.tmp 77) (.tmp 78) rfl (.slice A q.length c) q 0 rfl rfl HKZ.out HBZ.out hwz (by omega) ?_; intro v2 w2 ho2 hb2; obtain ⟨A2, c2, rfl, _, _⟩ := any_reads ho2; have HO2 := Lib.hid ho2; have HB2 := Lib.hid hb2; clear ho2 hb2) | fail)
        go_roundw
        case rel => exact ⟨j + 1, A2, c2, q ++ [0], by simp, by rw [HQ.out, List.append_assoc, List.replicate_succ'], by have := HQL.out; omega, HO2.out, HB2.out⟩
        case measure => simp; omega
      · have h64 : q = Sha.key64 l0 := by
          rw [H64.out, HQ.out, show j = 64 - kk.length by omega]
        have HQ4 := Lib.hid h64
        have HMQ : Hid (sha_Mac.f q l1 = some m) := Lib.hid (by rw [h64]; exact HM2.out)
        clear hql h64
        go_wp2_with fail
        obtain ⟨A', c', e', hpc, hrd⟩ := any_reads HKZ.out
        injection e' with e1 e2 e3
        subst e1
        subst e3
        refine (sha_Mac.calls A c q A1 c1 l1 m wz hrd hpc (Kd.C_below HR1.out HBZ.out) hc1 HMQ.out).mono ?_
        rintro e w20 ⟨rfl, hb20⟩
        have HB20 := Lib.hid (below_then HBZ.out HBZ.out.size hb20)
        clear hb20
        go_wp2
        go_ret
        exact ⟨rfl, HB20.out⟩

theorem Pure.ShaKeeps (k : List Int) (hk : k.length * 1 ≤ 140737488351232) (hkb : ∀ x ∈ k, 0 ≤ x ∧ x < 256) (l : List Int) (hl : l.length * 1 ≤ 140737488351232) (hb : ∀ x ∈ l, 0 ≤ x ∧ x < 256) : sawyerlaw01_ShaKeeps.f k l = some true :=
  if_pos ⟨(Sha.macOk_iff k l).2 ⟨Sha.ok_of k hkb (by omega), Sha.ok_of l hb (by omega), by omega⟩, by omega⟩
end Go.Proofs.Ytbnlkecjcgknhaa
