/-
  ShaMade answers true for every key and text that are not too long: the code is made of two hashes.
-/
import Derived.Test.YtlhgkmfcfdjngaaMark
import Derived.Test.YtlhgkmfcfdjngaaWGuard
namespace Go.Proofs.Ytlhgkmfcfdjngaa
open Go.RowKit Go.Proofs.YtlhgkmfcfdjngaaW.PrintWords Go.Proofs.YtlhgkmfcfdjngaaW.PrintLast Go.Proofs.YtlhgkmfcfdjngaaW.PrintMore
set_option linter.unusedVariables false
set_option linter.unusedSimpArgs false

def sawyerlaw01_ShaMade.f (l0 l1 : List Int) : Option Bool := if Sha.macOk l0 l1 = true then some true else none

theorem Sha.key_get (k : List Int) (i : Nat) (h : (Sha.key1 k).length ≤ i) (h2 : i < 64) : (Sha.key64 k).getD i 0 = 0 := by
  rw [List.getD_eq_getElem?_getD, Sha.key64, List.getElem?_append_right h]
  simp only [List.getElem?_replicate]
  rw [if_pos (by omega)]
  rfl
theorem Sha.key_get_in (k : List Int) (i : Nat) (h : i < (Sha.key1 k).length) : (Sha.key64 k).getD i 0 = (Sha.key1 k).getD i 0 := by
  rw [List.getD_eq_getElem?_getD, Sha.key64, List.getElem?_append_left h, List.getD_eq_getElem?_getD]

section
variable {ops : Array Oper} {rest : List Oper} {o : Oper} {a : Act} {Q : Exit → Act → World → Prop}
theorem app_one_made {w0 W : World} (base : Nat) (hgd : o.guard = none) (s x : Operand)
    (ho : o.op = .call { callee := .builtin .append, args := #[s, x], argTypes := #[24, 24] })
    (v : Value) (xs : List Int) (p : Int) (ok : Nat → Prop) (hs : a.eval s = v) (hx : a.eval x = .slice (some ⟨W.heap.size, 0, none⟩) 1 1)
    (HO : Kd.R (Kd.int .u8) 5 W base ok v xs) (hfresh : ∀ k, W.heap.size ≤ k → ok k) (HB : Below base w0 W) (hbase : base ≤ W.heap.size) (hl : xs.length + 1 ≤ 140737488355328)
    (h : ∀ v1 w1, Kd.R (Kd.int .u8) 5 w1 base ok v1 (xs ++ [p]) → Below base w0 w1 → W.grownBy w1 v.ownBlock → (v1.ownBlock = v.ownBlock ∨ ∃ b, v1.ownBlock = some b ∧ W.heap.size ≤ b) → wpList Try.prog ops Q rest (a.put o.dst v1) w1) :
    wpList Try.prog ops Q (o :: rest) a (W.alloc (.cells #[.int .u8 p] 5)) :=
  Kd.R_append (Kd.int .u8) (w0 := w0) base hgd s x 24 5 (.int .u8 0) 1 ho Try.underlying24 infoB rfl (by decide) (by omega) v xs p [.int .u8 p] ok (fun _ => False) hs hx rfl (fun _ h => h.elim) hfresh HO HB hbase (by simpa using hl) h
end

set_option maxHeartbeats 8000000 in
set_option maxRecDepth 100000 in
theorem sawyerlaw01_ShaMade.calls (A0 : Option Addr) (c0 : Nat) (l0 : List Int) (A1 : Option Addr) (c1 : Nat) (l1 : List Int) (r : Bool) (w : World) (hr0 : Kd.C (Kd.int .u8) w A0 l0.length l0) (hc0 : l0.length ≤ c0) (hr1 : Kd.C (Kd.int .u8) w A1 l1.length l1) (hc1 : l1.length ≤ c1) (h : sawyerlaw01_ShaMade.f l0 l1 = some r) :
    Calls Try.prog 7 #[.slice A0 l0.length c0, .slice A1 l1.length c1] w fun e w' => e = .returned (.bool r) ∧ Below w.heap.size w w' := by
  unfold sawyerlaw01_ShaMade.f at h
  split at h
  case isFalse => cases h
  rename_i hok
  obtain rfl := Option.some.inj h
  clear h
  have HR0 := Lib.hid hr0
  have HR1 := Lib.hid hr1
  have OK0 := Lib.hid ((Sha.macOk_iff l0 l1).1 hok).1
  have HL1 := Lib.hid ((Sha.macOk_iff l0 l1).1 hok).2.2
  have HL0 := Lib.hid (Sha.ok_range OK0.out).2
  obtain ⟨d, m, hm, hd, hs1, hs2⟩ := mac_some l0 l1 hok
  have HM := Lib.hid (show sha_Mac.f l0 l1 = some m from (if_pos hok).trans (by rw [hm]))
  have HD := Lib.hid hd
  have HS1 := Lib.hid hs1
  have HS2 := Lib.hid hs2
  clear hm hd hs1 hs2 hok hr0 hr1
  have hcv := fun w => Lib.run_convert_string_bytes (P := Try.prog) w 9 24 5 (Sha.sum l0) Try.underlying9 Try.underlying24 Try.underlying5
  go_enter Try.func7, Try.ntmps7
  by_cases hlong : 64 < l0.length
  all_goals
    go_wp2_with (first | (refine lit_none (w0 := w) w.heap.size rfl rfl rfl (Below.refl _ _) (Nat.le_refl _) ?_; intro v1 w1 ho1 hb1 _; have HO1 := Lib.hid ho1; have HB1 := Lib.hid hb1; clear ho1 hb1) | (at_builtin; refine app_row (w0 := w) w.heap.size rfl (.tmp 11) (.tmp 12) rfl v1 [] l0 A0 _ c0 rfl rfl HO1.out (Kd.C_below HR0.out HB1.out) HB1.out HB1.out.size (by have := HL0.out; simp; omega) ?_; intro v2 w2 ho2 hb2 _ _; obtain ⟨A2, c2, rfl⟩ := Kd.R_slice ho2; have HO2 := Lib.hid ho2; have HB2 := Lib.hid hb2; clear ho2 hb2) | fail)
  have HCP := Lib.hid HO2
  clear HCP
  refine (sha_Sum.calls A2 c2 l0 (Sha.sum l0) w2 (Kd.R_reads' HO2.out).2.2 (Kd.R_reads' HO2.out).2.1 (sum_some _ OK0.out)).mono ?_
  rintro e w3 ⟨rfl, hb3⟩
  have HB3 := Lib.hid (below_then HB2.out HB2.out.size hb3)
  clear hb3 HO2 HB2 HO1 HB1
  go_wp2
  have hmk := marked_conv w3 (Sha.sum l0) (by rw [Sha.sum_size]; decide)
  have hbw := Lib.bytesWorld_below w3 5 (Sha.sum l0)
  have hkk : Sha.key1 l0 = bytesOf (Sha.sum l0) := if_pos hlong
  have hsz : (Sha.sum l0).size = (Sha.key1 l0).length := by rw [hkk, bytesOf_length]
  rw [← hkk] at hmk
  have HBW : Hid (Below w.heap.size w (Lib.bytesWorld w3 5 (Sha.sum l0))) := Lib.hid (below_then HB3.out HB3.out.size hbw)
  have hw3 := HB3.out.size
  clear hcv hbw hkk HB3
  generalize grownCap w3 (Sha.sum l0).size 0 5 = ck at *
  generalize Lib.bytesWorld w3 5 (Sha.sum l0) = W at *
  rw [hsz] at hmk ⊢
  generalize (some (⟨w3.heap.size, 0, none⟩ : Addr)) = Ak at *
  generalize Value.string (Sha.sum l0) = u12 at *
  have HK : Hid (Any8 W w.heap.size (.slice Ak (Sha.key1 l0).length ck) (Sha.key1 l0)) := Lib.hid (.inr (by obtain ⟨g, cap, lo, hi, cur, e, hbs, rest⟩ := hmk; exact ⟨g, cap, lo, hi, cur, e, Nat.le_trans hw3 hbs, rest⟩))
  clear hsz hmk
  rotate_left
  have hkk : Sha.key1 l0 = l0 := if_neg hlong
  obtain ⟨Ak, hAk⟩ : ∃ Ak, Ak = A2 := ⟨_, rfl⟩
  obtain ⟨ck, hck⟩ : ∃ ck, ck = c2 := ⟨_, rfl⟩
  obtain ⟨W, hW⟩ : ∃ W, W = w2 := ⟨_, rfl⟩
  have HBW : Hid (Below w.heap.size w W) := Lib.hid (by rw [hW]; exact HB2.out)
  have HK : Hid (Any8 W w.heap.size (.slice Ak (Sha.key1 l0).length ck) (Sha.key1 l0)) := Lib.hid (.inl (by rw [hkk, hAk, hck, hW]; exact HO2.out))
  rw [← hAk, ← hck, ← hW]
  rw [show l0.length = (Sha.key1 l0).length by rw [hkk]]
  clear hAk hck hW hcv hkk HO2 HB2 HO1 HB1
  all_goals
    have hkl := Sha.key1_length l0
    obtain ⟨p, hp⟩ : ∃ p, p = Sha.key64 l0 := ⟨_, rfl⟩
    have H64 : Hid (p.length = 64) := Lib.hid (by rw [hp]; exact Sha.key64_length l0)
    have KG : Hid (∀ i, (Sha.key1 l0).length ≤ i → i < 64 → p.getD i 0 = 0) := Lib.hid (by rw [hp]; exact Sha.key_get l0)
    have KI : Hid (∀ i, i < (Sha.key1 l0).length → p.getD i 0 = (Sha.key1 l0).getD i 0) := Lib.hid (by rw [hp]; exact Sha.key_get_in l0)
    have HPK := Lib.hid hp
    clear hp
    generalize hke : Sha.key1 l0 = kk at *
    have HKE := Lib.hid hke.symm
    clear hke
    obtain ⟨A', c', e', hpc, hrd⟩ := any_reads HK.out
    injection e' with e1 e2 e3
    subst e1
    subst e3
    obtain ⟨wx, rfl⟩ : ∃ wx, wx = W := ⟨_, rfl⟩
    have HRD := Lib.hid hrd
    have HB := HBW
    clear hrd HK HBW
    go_loopw [6, 7, 8] (fun a b k wz => ∃ (i : Nat) (Aa : Option Addr) (ca : Nat) (Ab : Option Addr) (cb : Nat) (q1 q2 : List Int), i ≤ 64 ∧ k = .int .i64 i ∧ a = .slice Aa q1.length ca ∧ b = .slice Ab q2.length cb ∧ q1 = (p.take i).map (Sha.x8 54) ∧ q2 = (p.take i).map (Sha.x8 92) ∧ Apart8 wz wx.heap.size (.slice Aa q1.length ca) (.slice Ab q2.length cb) q1 ∧ Apart8 wz wx.heap.size (.slice Ab q2.length cb) (.slice Aa q1.length ca) q2 ∧ Below wx.heap.size wx wz) (fun _ _ k _ => 64 - (intOf k).toNat)
    case atStart => exact ⟨0, none, 0, none, 0, [], [], by omega, by go_num, rfl, rfl, rfl, rfl, Kd.R_nil _ _ _ _ _, Kd.R_nil _ _ _ _ _, Below.refl _ _⟩
    case round =>
      obtain ⟨i, Aa, ca, Ab, cb, q1, q2, hi, rfl, rfl, rfl, hq1, hq2, hp1, hp2, hbz⟩ := hrel
      obtain ⟨wz, rfl⟩ : ∃ wz, wz = wr := ⟨_, rfl⟩
      have hl1 : q1.length = i := by rw [hq1, List.length_map, List.length_take, H64.out]; omega
      have hl2 : q2.length = i := by rw [hq2, List.length_map, List.length_take, H64.out]; omega
      have HL1' := Lib.hid hl1
      have HL2' := Lib.hid hl2
      have HQ1 := Lib.hid hq1
      have HQ2 := Lib.hid hq2
      have HP1 := Lib.hid hp1
      have HP2 := Lib.hid hp2
      have HBZ := Lib.hid hbz
      have hszz := hbz.size
      clear hl1 hl2 hq1 hq2 hp1 hp2 hbz
      by_cases hlt : i < 64
      · obtain ⟨x, hx⟩ : ∃ x, x = p.getD i 0 := ⟨_, rfl⟩
        have HX := Lib.hid hx
        by_cases hin : i < kk.length
        have hx1 : ∃ ad, Ak = some ad ∧ wz.cell? (ad.add i) = some (.int .u8 x) := by
          obtain ⟨ad, e, hc⟩ := Kd.at_int (Kd.C_below HRD.out HBZ.out) (i : Int) (by omega) (by omega)
          refine ⟨ad, e, ?_⟩
          rw [Int.toNat_natCast] at hc
          rw [hc, hx, KI.out i hin]
          simp [rd]
        obtain ⟨ad, rfl, hx1⟩ := hx1
        rotate_left
        have hx0 : x = 0 := by rw [hx]; exact KG.out i (by omega) hlt
        all_goals
          clear hx
          go_wp2_with (first | (at_builtin; refine app_one_made (w0 := wx) wx.heap.size rfl (.tmp 32) (.tmp 35) rfl (.slice Aa q1.length ca) q1 _ _ rfl rfl HP1.out (fun k hk => ⟨trivial, Kd.fresh_ok HP2.out k hk⟩) HBZ.out hszz (by have := HL1'.out; omega) ?_; intro v3 w3 ho3 hb3 hg3 hat3; obtain ⟨A3, c3, rfl⟩ := Kd.R_slice ho3; have HP3 := Lib.hid ho3; have HB3 := Lib.hid hb3; have HP4 := Lib.hid (Kd.R_after HP2.out hg3 hat3); have hs3 := hb3.size; clear ho3 hb3 hg3 hat3) | (at_builtin; refine app_one_made (w0 := wx) wx.heap.size rfl (.tmp 37) (.tmp 40) rfl (.slice Ab q2.length cb) q2 _ _ rfl rfl HP4.out (fun k hk => ⟨trivial, Kd.fresh_ok HP3.out k hk⟩) HB3.out hs3 (by have := HL2'.out; omega) ?_; intro v4 w4 ho4 hb4 hg4 hat4; obtain ⟨A4, c4, rfl⟩ := Kd.R_slice ho4; have HP5 := Lib.hid ho4; have HB4 := Lib.hid hb4; have HP6 := Lib.hid (Kd.R_after HP3.out hg4 hat4); clear ho4 hb4 hg4 hat4) | fail)
          go_roundw
          case rel =>
            refine ⟨i + 1, A3, c3, A4, c4, _, _, by omega, by go_num, by first | rfl | simp, by first | rfl | simp, ?_, ?_, HP6.out, HP5.out, HB4.out⟩
            · rw [HQ1.out, take_snoc p i (by rw [H64.out]; exact hlt), List.map_append, ← HX.out]
              first | rfl | (subst hx0; rfl)
            · rw [HQ2.out, take_snoc p i (by rw [H64.out]; exact hlt), List.map_append, ← HX.out]
              first | rfl | (subst hx0; rfl)
          case measure => simp [intOf]; omega
      · obtain rfl : i = 64 := by omega
        have e1 : q1 = Sha.inn l0 := by
          rw [HQ1.out, ← H64.out, List.take_length, HPK.out]
          rfl
        have e2 : q2 = Sha.outr l0 := by
          rw [HQ2.out, ← H64.out, List.take_length, HPK.out]
          rfl
        have E1 := Lib.hid e1
        have E2 := Lib.hid e2
        have HR1Z := Lib.hid (Kd.C_below (Kd.C_below HR1.out HB.out) HBZ.out)
        have HR0Z := Lib.hid (Kd.C_below (Kd.C_below HR0.out HB.out) HBZ.out)
        clear e1 e2 HQ1 HQ2 HRD HPK KG KI
        go_wp2_with (first | (at_builtin; refine app_row (w0 := wx) wx.heap.size rfl (.tmp 42) (.tmp 43) rfl (.slice Aa q1.length ca) q1 l1 A1 _ c1 rfl rfl (Kd.R_mono HP1.out (fun _ _ => trivial)) HR1Z.out HBZ.out hszz (by have := HL1'.out; have := HL1.out; omega) ?_; intro v3 w3 ho3 hb3 hg3 hat3; obtain ⟨q3, hq3⟩ : ∃ q, q = q1 ++ l1 := ⟨_, rfl⟩; rw [← hq3] at ho3; have HS3 : Hid (sha_Sum.f q3 = some d) := Lib.hid (by rw [hq3, E1.out]; exact HS1.out); clear hq3; have HU3 := Lib.hid (Kd.R_after HP2.out hg3 hat3); have HO3 := Lib.hid ho3; have HB3 := Lib.hid hb3; obtain ⟨A3, c3, rfl⟩ := Kd.R_slice ho3; clear ho3 hb3 hg3 hat3) | fail)
        refine (sha_Sum.calls A3 c3 q3 d w3 (Kd.R_reads' HO3.out).2.2 (Kd.R_reads' HO3.out).2.1 HS3.out).mono ?_
        rintro e w4 ⟨rfl, hb4⟩
        have HU4 : Hid (Own8 w4 wx.heap.size (.slice Ab q2.length cb) q2) := Lib.hid (own8_below (Kd.R_mono HU3.out (fun _ _ => trivial)) hb4)
        have HB4 : Hid (Below wx.heap.size wx w4) := Lib.hid (below_then HB3.out HB3.out.size hb4)
        clear hb4 HU3 HO3 HB3 HP1 HP2
        have hd32 : (d.size : Int) = 32 := by rw [HD.out]; rfl
        go_wp2_with fail
        first | rw [show kk.length = l0.length by rw [HKE.out, Sha.key1, if_neg hlong]] | skip
        refine (sha_Mac.calls A0 c0 l0 A1 c1 l1 m w4 (Kd.C_below (Kd.C_below HR0.out HB.out) HB4.out) hc0 (Kd.C_below (Kd.C_below HR1.out HB.out) HB4.out) hc1 HM.out).mono ?_
        rintro e w7 ⟨rfl, hb7⟩
        have HU7 : Hid (Own8 w7 wx.heap.size (.slice Ab q2.length cb) q2) := Lib.hid (own8_below HU4.out hb7)
        have HB7 : Hid (Below wx.heap.size wx w7) := Lib.hid (below_then HB4.out HB4.out.size hb7)
        have hs7 := HB7.out.size
        clear hb7 HU4 HB4
        go_wp2_with (first | (at_builtin; refine gate_guard (by rfl) ?_; refine app_str (w0 := wx) wx.heap.size rfl (.tmp 53) (.tmp 54) rfl (.slice Ab q2.length cb) q2 d rfl rfl HU7.out HB7.out hs7 (by have := HD.out; have := HL2'.out; omega) ?_; intro v5 w5 ho5 hb5 hg5; obtain ⟨q5, hq5⟩ : ∃ q, q = q2 ++ bytesOf d := ⟨_, rfl⟩; rw [← hq5] at ho5; have HS5 : Hid (sha_Sum.f q5 = some m) := Lib.hid (by rw [hq5, E2.out]; exact HS2.out); clear hq5; have HO5 := Lib.hid ho5; have HB5 := Lib.hid hb5; obtain ⟨A5, c5, rfl⟩ := Kd.R_slice ho5; clear ho5 hb5 hg5) | fail)
        refine (sha_Sum.calls A5 c5 q5 m w5 (Kd.R_reads' HO5.out).2.2 (Kd.R_reads' HO5.out).2.1 HS5.out).mono ?_
        rintro e w6 ⟨rfl, hb6⟩
        have HB6 := Lib.hid (below_then HB.out HB.out.size (below_then HB5.out HB5.out.size hb6))
        clear hb6
        go_wp2
        go_ret
        exact ⟨rfl, HB6.out⟩

theorem Pure.ShaMade (k : List Int) (hk : k.length * 1 ≤ 140737488351232) (hkb : ∀ x ∈ k, 0 ≤ x ∧ x < 256) (l : List Int) (hl : l.length * 1 ≤ 140737488351232) (hb : ∀ x ∈ l, 0 ≤ x ∧ x < 256) : sawyerlaw01_ShaMade.f k l = some true :=
  if_pos ((Sha.macOk_iff k l).2 ⟨Sha.ok_of k hkb (by omega), Sha.ok_of l hb (by omega), by omega⟩)
end Go.Proofs.Ytlhgkmfcfdjngaa
