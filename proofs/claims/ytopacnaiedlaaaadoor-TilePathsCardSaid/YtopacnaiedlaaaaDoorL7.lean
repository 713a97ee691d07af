-- JOINED BY A PROGRAM OF THIS PLACE (wip/tools/pack.py) out of: Sum Mk
import Derived.Test.YtopacnaiedlaaaaDoorL6
section
/-
  sha.Sum: for every list of bytes that is not too long, what it answers is the hash of the plain text Sha.
-/
namespace Go.Proofs.YtopacnaiedlaaaaDoor
open Go.RowKit Go.Proofs.YtopacnaiedlaaaaDoorW.PrintWords Go.Proofs.YtopacnaiedlaaaaDoorW.PrintLast Go.Proofs.YtopacnaiedlaaaaDoorW.PrintMore
set_option linter.unusedVariables false
set_option linter.unusedSimpArgs false
def sha_Sum.f (l0 : List Int) : Option ByteArray := if Sha.ok l0 = true then some (Sha.sum l0) else none
def sliceLen : Value → Nat
  | .slice _ n _ => n
  | _ => 0
/-- the state's block lies apart from a row of bytes that is appended to -/
theorem st_kept {W w1 : World} {base g : Nat} {v : Value} {xs : List Int} {cs : Array Value} (HO : Own8 W base v xs) (hg : W.heap[g]? = some (.cells cs 92 (0, 0))) (h : W.grownBy w1 v.ownBlock) : w1.heap[g]? = some (.cells cs 92 (0, 0)) :=
  (h.block g (Array.getElem?_eq_some_iff.1 hg).1 (Kd.R_ne HO hg (by decide))).trans hg
/-- bytes that are read lie in another block than the one that is written -/
theorem rd8_kept {W w1 : World} {A : Option Addr} {n : Nat} {xs : List Int} {g : Nat} (h : Kd.C (Kd.int .u8) W A n xs) (hg : W.grownBy w1 (some g)) (hne : ∀ ad, A = some ad → ad.block ≠ g) : Kd.C (Kd.int .u8) w1 A n xs := by
  obtain ⟨h1, h2, h3⟩ := Kd.reads_of_C (d := (0 : Int)) h
  refine Kd.C_of_reads (d := (0 : Int)) (h1 := fun _ => rfl) ⟨h1, h2, fun hn => ?_⟩
  obtain ⟨ad, e, hc⟩ := h3 hn
  refine ⟨ad, e, fun j hj => ?_⟩
  have hb : (ad.add j).block = ad.block := by unfold Addr.add; split <;> rfl
  exact hg.cell (hc j hj) (by rw [hb]; exact fun e2 => hne ad e (Option.some.inj e2))
theorem drop_block (A : Option Addr) (c m g : Nat) (h : ∀ ad, A = some ad → ad.block ≠ g) : ∀ ad, (if c = m then A else A.map (·.add (m * 1))) = some ad → ad.block ≠ g := by
  intro ad e
  split at e
  · exact h ad e
  · obtain ⟨a, ha, rfl⟩ := Option.map_eq_some_iff.1 e
    have hb : (a.add (m * 1)).block = a.block := by unfold Addr.add; split <;> rfl
    rw [hb]
    exact h a ha
theorem own_ne_st {W : World} {base g : Nat} {A : Option Addr} {n c : Nat} {xs : List Int} {cs : Array Value} (HO : Own8 W base (.slice A n c) xs) (hg : W.heap[g]? = some (.cells cs 92 (0, 0))) : ∀ ad, A = some ad → ad.block ≠ g := by
  rintro ad rfl e
  have := Kd.R_ne HO hg (by decide)
  exact this (by simp [Value.ownBlock, e])
theorem blocks_step (p s : List Int) (h : 64 ≤ p.length) (hm : p.length % 64 = 0) : Sha.blocks (p.length / 64) p s = Sha.blocks ((p.drop 64).length / 64) (p.drop 64) (Sha.take s (p.take 64)) := by
  rw [List.length_drop, show p.length / 64 = (p.length - 64) / 64 + 1 by omega]
  rfl
theorem out_snoc (s : List Int) (x : Int) : Sha.out (s ++ [x]) = Sha.out s ++ Sha.bytes4 x := by simp [Sha.out]
theorem take_snoc8 (n i : Nat) (h : i < 8) : (Sha.len8 n).take (i + 1) = (Sha.len8 n).take i ++ [(Sha.len8 n).getD i 0] := by
  rw [List.take_succ_eq_append_getElem (show i < (Sha.len8 n).length from h), List.getD_eq_getElem?_getD, List.getElem?_eq_getElem (show i < (Sha.len8 n).length from h)]
  rfl
set_option maxHeartbeats 4000000 in
set_option maxRecDepth 100000 in
theorem sha_Sum.calls (A0 : Option Addr) (c0 : Nat) (l0 : List Int) (r : ByteArray) (w : World) (hr0 : Kd.C (Kd.int .u8) w A0 l0.length l0) (hc0 : l0.length ≤ c0) (h : sha_Sum.f l0 = some r) :
    Calls Tryd.prog 46 #[.slice A0 l0.length c0] w fun e w' => e = .returned (.string r) ∧ Below w.heap.size w w' := by
  unfold sha_Sum.f at h
  split at h
  case isFalse => cases h
  rename_i hok
  obtain rfl := Option.some.inj h
  clear h
  obtain ⟨hby, hlen⟩ : (∀ x ∈ l0, 0 ≤ x ∧ x < 256) ∧ l0.length ≤ 140737488355000 := by
    simpa [Sha.ok] using hok
  clear hok
  have HR := Lib.hid hr0
  have HBY := Lib.hid hby
  have hv := zeroSt
  clear hr0 hby
  go_enter Tryd.func46, Tryd.ntmps46
  go_wp2_with (first | (refine wpList_buildAs rfl 92 _ (u32s Sha.H0) rfl (by kernel_rfl) ?_) | (refine wpList_store_row rfl 92 (.tmp 3) (.tmp 10) rfl w.heap.size (u32s Sha.H0) rfl rfl 92 _ (heap_alloc_last w _) infoSt (by rw [u32s_size]; rfl) (u32s_one _) ?_; rw [World.setRow_alloc_new]; generalize hX : World.alloc w (.cells (u32s Sha.H0) 92) = X; have HX := Lib.hid hX; clear hX) | fail)
  have F1 : Hid (X.heap[w.heap.size]? = some (.cells (u32s Sha.H0) 92 (0, 0))) := Lib.hid (by rw [← HX.out]; exact heap_alloc_last w _)
  have F2 : Hid (Below w.heap.size w X) := Lib.hid (by rw [← HX.out]; exact (Below.refl _ _).alloc (Nat.le_refl _) _)
  have F3 : w.heap.size ≤ X.heap.size := F2.out.size
  clear HX hv
  refine (clone8_calls A0 c0 l0 X (Kd.C_below HR.out F2.out) (by omega)).mono ?_
  rintro e W1 ⟨v1, rfl, ho1, hb1⟩
  have G1 : Hid (W1.heap[w.heap.size]? = some (.cells (u32s Sha.H0) 92 (0, 0))) := Lib.hid ((hb1.block _ (Array.getElem?_eq_some_iff.1 F1.out).1).trans F1.out)
  have G2 : Hid (Below w.heap.size w W1) := Lib.hid (below_then F2.out F3 hb1)
  have G3 : Hid (Own8 W1 w.heap.size v1 l0) := Lib.hid (Kd.R_lower ho1 F3)
  have G4 : w.heap.size ≤ W1.heap.size := G2.out.size
  clear F1 F2 F3 ho1 hb1
  go_wp2_with (first | (at_builtin; refine app_one (w0 := w) w.heap.size rfl (.tmp 12) (.tmp 13) rfl v1 l0 128 rfl rfl G3.out G2.out G4 (by omega) ?_; intro v2 w2 ho2 hb2 hg2 _; have HO2 := Lib.hid ho2; have HB2 := Lib.hid hb2; have HS2 := Lib.hid (st_kept G3.out G1.out hg2); clear ho2 hb2 hg2) | fail)
  obtain ⟨J, hJ⟩ : ∃ J, J = (119 - l0.length % 64) % 64 := ⟨_, rfl⟩
  have HJ := Lib.hid hJ
  clear hJ G1 G2 G3 G4
  go_loopw [4] (fun v wr => ∃ (j : Nat) (p : List Int) (A : Option Addr) (c : Nat), j ≤ J ∧ v = .slice A p.length c ∧ p = l0 ++ 128 :: List.replicate j 0 ∧ Own8 wr w.heap.size (.slice A p.length c) p ∧ wr.heap[w.heap.size]? = some (.cells (u32s Sha.H0) 92 (0, 0)) ∧ Below w.heap.size w wr) (fun v _ => l0.length + 1 + J - sliceLen v)
  case atStart =>
    obtain ⟨A, c, rfl⟩ := Kd.R_slice HO2.out
    exact ⟨0, l0 ++ [128], A, c, by omega, rfl, rfl, HO2.out, HS2.out, HB2.out⟩
  case round =>
    obtain ⟨j, p, A, c, hj, rfl, hp, ho, hs, hb⟩ := hrel
    have hpl : p.length = l0.length + 1 + j := by rw [hp]; simp; omega
    have HP := Lib.hid hp
    have HPL := Lib.hid hpl
    have HO := Lib.hid ho
    have HS := Lib.hid hs
    have HB := Lib.hid hb
    have hsz := hb.size
    by_cases hlt : j < J
    · have hmod : ¬ (p.length : Int) % 64 = 56 := by have := HJ.out; omega
      clear hp hpl ho hs hb
      go_wp2_with (first | (at_builtin; refine app_one (w0 := w) w.heap.size rfl (.tmp 19) (.tmp 20) rfl (.slice A p.length c) p 0 rfl rfl HO.out HB.out hsz (by have := HPL.out; have := HJ.out; omega) ?_; intro v2 w2 ho2 hb2 hg2 _; have HO3 := Lib.hid ho2; have HB3 := Lib.hid hb2; have HS3 := Lib.hid (st_kept HO.out HS.out hg2); clear ho2 hb2 hg2) | fail)
      go_roundw
      case rel =>
        obtain ⟨A', c', rfl⟩ := Kd.R_slice HO3.out
        exact ⟨j + 1, p ++ [0], A', c', by omega, rfl, by rw [HP.out, List.replicate_succ']; simp, HO3.out, HS3.out, HB3.out⟩
      case measure =>
        obtain ⟨A', c', rfl⟩ := Kd.R_slice HO3.out
        have := HPL.out
        simp [sliceLen]
        omega
    · have hmod : (p.length : Int) % 64 = 56 := by have := HJ.out; omega
      obtain rfl : j = J := by omega
      clear hp hpl ho hs hb hlt hj
      go_wp2_with fail
      clear hmod
      go_loopw [4, 6] (fun v k wx => ∃ (i : Nat) (q : List Int) (A : Option Addr) (c : Nat), i ≤ 8 ∧ k = .int .i64 (7 - (i : Int)) ∧ v = .slice A q.length c ∧ q = p ++ (Sha.len8 l0.length).take i ∧ Own8 wx w.heap.size (.slice A q.length c) q ∧ wx.heap[w.heap.size]? = some (.cells (u32s Sha.H0) 92 (0, 0)) ∧ Below w.heap.size w wx) (fun _ k _ => (1 + intOf k).toNat)
      case atStart => exact ⟨0, p, A, c, by omega, by go_num, rfl, by simp, HO.out, HS.out, HB.out⟩
      case round =>
        obtain ⟨i, q, A, c, hi, rfl, rfl, hq, ho, hs, hb⟩ := hrel
        obtain ⟨wx, rfl⟩ : ∃ wx, wx = wr := ⟨_, rfl⟩
        have hql : q.length = l0.length + 1 + j + i := by rw [hq, List.length_append, HPL.out, List.length_take, show (Sha.len8 l0.length).length = 8 from rfl]; omega
        have HQ := Lib.hid hq
        have HQL := Lib.hid hql
        have HO4 := Lib.hid ho
        have HS4 := Lib.hid hs
        have HB4 := Lib.hid hb
        have hsz4 := hb.size
        clear hq hql ho hs hb
        by_cases hlt : i < 8
        · have h8 := take_snoc8 l0.length i hlt
          have H8 := Lib.hid h8
          clear h8
          have hcs : i = 0 ∨ i = 1 ∨ i = 2 ∨ i = 3 ∨ i = 4 ∨ i = 5 ∨ i = 6 ∨ i = 7 := by omega
          rcases hcs with rfl | rfl | rfl | rfl | rfl | rfl | rfl | rfl
          all_goals
            clear hlt hi
            go_wp2_with (first | (at_builtin; refine app_one (w0 := w) w.heap.size rfl (.tmp 30) (.tmp 36) rfl (.slice A q.length c) q _ rfl rfl HO4.out HB4.out hsz4 (by have := HQL.out; have := HJ.out; omega) ?_; intro v2 w2 ho2 hb2 hg2 _; have HO3 := Lib.hid ho2; have HB3 := Lib.hid hb2; have HS3 := Lib.hid (st_kept HO4.out HS4.out hg2); clear ho2 hb2 hg2) | fail)
            go_roundw
            case rel =>
              obtain ⟨A', c', rfl⟩ := Kd.R_slice HO3.out
              (first | refine ⟨1, _, A', c', by omega, by go_num, rfl, ?_, HO3.out, HS3.out, HB3.out⟩ | refine ⟨2, _, A', c', by omega, by go_num, rfl, ?_, HO3.out, HS3.out, HB3.out⟩ | refine ⟨3, _, A', c', by omega, by go_num, rfl, ?_, HO3.out, HS3.out, HB3.out⟩ | refine ⟨4, _, A', c', by omega, by go_num, rfl, ?_, HO3.out, HS3.out, HB3.out⟩ | refine ⟨5, _, A', c', by omega, by go_num, rfl, ?_, HO3.out, HS3.out, HB3.out⟩ | refine ⟨6, _, A', c', by omega, by go_num, rfl, ?_, HO3.out, HS3.out, HB3.out⟩ | refine ⟨7, _, A', c', by omega, by go_num, rfl, ?_, HO3.out, HS3.out, HB3.out⟩ | refine ⟨8, _, A', c', by omega, by go_num, rfl, ?_, HO3.out, HS3.out, HB3.out⟩)
              rw [H8.out, ← List.append_assoc, ← HQ.out]
              congr 2
              simp [Sha.len8]
              omega
            case measure => simp [intOf]
        · obtain rfl : i = 8 := by omega
          have hpad : q = Sha.pad l0 := by
            rw [HQ.out, HP.out, HJ.out]
            rfl
          have HPAD := Lib.hid hpad
          clear hpad hlt hi
          rw [show (7 - ((8 : Nat) : Int)) = -1 from rfl]
          have hqb : ∀ x ∈ q, 0 ≤ x ∧ x < 256 := by
            rw [HPAD.out]
            intro x hx
            simp only [Sha.pad, List.mem_append, List.mem_cons, List.mem_replicate] at hx
            rcases hx with (hx | rfl | ⟨_, rfl⟩) | hx
            · exact HBY.out x hx
            · omega
            · omega
            · simp only [Sha.len8, List.mem_cons, List.not_mem_nil, or_false] at hx
              omega
          have HQB := Lib.hid hqb
          have hq64 : q.length % 64 = 0 := by rw [HPAD.out]; exact Sha.pad_length l0
          have HQ64 := Lib.hid hq64
          have HNE := Lib.hid (own_ne_st HO4.out HS4.out)
          have HRD := Lib.hid (Kd.R_reads' HO4.out)
          clear hqb hq64 HP HPL HO HS HB
          go_wp2_with fail
          go_loopw [4] (fun v wy => ∃ (A : Option Addr) (c : Nat) (p : List Int) (s : List Int), v = .slice A p.length c ∧ p.length ≤ c ∧ p.length % 64 = 0 ∧ (∀ x ∈ p, 0 ≤ x ∧ x < 256) ∧ s.length = 8 ∧ Sha.blocks (p.length / 64) p s = Sha.blocks ((Sha.pad l0).length / 64) (Sha.pad l0) Sha.H0 ∧ (∀ ad, A = some ad → ad.block ≠ w.heap.size) ∧ Kd.C (Kd.int .u8) wy A p.length p ∧ wy.heap[w.heap.size]? = some (.cells (u32s s) 92 (0, 0)) ∧ Below w.heap.size w wy) (fun v _ => sliceLen v)
          case atStart => exact ⟨A, c, q, Sha.H0, rfl, HRD.out.2.1, HQ64.out, HQB.out, rfl, by rw [← HPAD.out], HNE.out, HRD.out.2.2, HS4.out, HB4.out⟩
          case round =>
            obtain ⟨A, c, p, s, rfl, hpc, hp64, hpb, hs8, hbl, hne, hrd, hst, hb⟩ := hrel
            obtain ⟨wy, rfl⟩ : ∃ wy, wy = wr := ⟨_, rfl⟩
            have hszy := hb.size
            have HST := Lib.hid hst
            have HBY' := Lib.hid hb
            have HPB := Lib.hid hpb
            have HNY := Lib.hid hne
            have HRY := Lib.hid hrd
            have HBL := Lib.hid hbl
            have HS8 := Lib.hid hs8
            clear hst hb hpb hne hrd hbl hs8
            obtain ⟨i5, hi5, _, hsz5, _⟩ := info_parts infoB
            by_cases h0 : 0 < p.length
            · have h64 : 64 ≤ p.length := by omega
              obtain ⟨b, hbq⟩ : ∃ b, b = p.take 64 := ⟨_, rfl⟩
              obtain ⟨r, hrq⟩ : ∃ b, b = p.drop 64 := ⟨_, rfl⟩
              obtain ⟨A2, hA2⟩ : ∃ A2, A2 = if c = 64 then A else A.map (·.add (64 * 1)) := ⟨_, rfl⟩
              have hbl : b.length = 64 := by rw [hbq, List.length_take]; omega
              have hrl : r.length = p.length - 64 := by rw [hrq, List.length_drop]
              have hto : ∀ W : World, (Instr.slice 76 (.slice A p.length c) none (some (.int .i64 64)) none).run Tryd.prog W = .ok (.slice A b.length c) W := by
                intro W
                rw [hbl]
                exact cut_to (P := Tryd.prog) 76 5 .i64 Tryd.underlying76 hi5 A p.length c 64 (by omega) (by omega) hpc W
              have hfrom : ∀ W : World, (Instr.slice 76 (.slice A p.length c) (some (.int .i64 64)) none none).run Tryd.prog W = .ok (.slice A2 r.length (c - 64)) W := by
                intro W
                rw [hrl, hA2]
                exact cut_from (P := Tryd.prog) 76 5 .i64 Tryd.underlying76 hi5 1 hsz5 A p.length c 64 (by omega) (by omega) W
              have HCB : Hid (Kd.C (Kd.int .u8) wy A b.length b) := Lib.hid (by rw [hbq]; exact Kd.C_take HRY.out h64)
              have HCR : Hid (Kd.C (Kd.int .u8) wy A2 r.length r) := Lib.hid (by rw [hrq, hA2]; exact Kd.C_drop (k := Kd.int .u8) HRY.out h64 hpc)
              have HNR : Hid (∀ ad, A2 = some ad → ad.block ≠ w.heap.size) := Lib.hid (by rw [hA2]; exact drop_block A c 64 _ HNY.out)
              have HBE := Lib.hid hbl
              have HBQ := Lib.hid hbq
              have HRQ := Lib.hid hrq
              have HRL := Lib.hid hrl
              have hbc : b.length ≤ c := by omega
              clear hbq hrq hA2 hbl hrl hi5
              go_wp2_with fail
              refine (take_calls w.heap.size s HS8.out A c b wy HST.out HCB.out hbc HBE.out (fun x hx => HPB.out x (by rw [HBQ.out] at hx; exact List.mem_of_mem_take hx))).mono ?_
              rintro e w3 ⟨rfl, hst3, hg3⟩
              have HST3 := Lib.hid hst3
              have HG3 := Lib.hid hg3
              clear hst3 hg3
              go_wp2
              go_roundw
              case rel =>
                refine ⟨A2, c - 64, r, Sha.take s b, rfl, by have := HRL.out; omega, by have := HRL.out; omega, fun x hx => HPB.out x (by rw [HRQ.out] at hx; exact List.mem_of_mem_drop hx), Sha.take_length _ _ HS8.out, ?_, HNR.out, rd8_kept HCR.out HG3.out HNR.out, HST3.out, ?_⟩
                · rw [← HBL.out, blocks_step p s h64 hp64, HRQ.out, HBQ.out]
                · exact HBY'.out.grown HG3.out hszy (fun k e => by cases e; exact Nat.le_refl _)
              case measure =>
                have := HRL.out
                simp [sliceLen]
                omega
            · have hp0 : p.length = 0 := by omega
              obtain rfl : p = [] := List.eq_nil_of_length_eq_zero hp0
              have hfin : s = Sha.blocks ((Sha.pad l0).length / 64) (Sha.pad l0) Sha.H0 := HBL.out
              have HFIN := Lib.hid hfin
              clear hfin hp0 h0 hp64 HBL
              obtain ⟨s0, s1, s2, s3, s4, s5, s6, s7, rfl⟩ := u32s_eq8 s HS8.out
              have x0 : ∀ w, (Instr.index 92 (.agg (u32s [s0, s1, s2, s3, s4, s5, s6, s7])) (.int .i64 0)).run Tryd.prog w = .ok (.int .u32 s0) w := fun w => by kernel_rfl
              have x1 : ∀ w, (Instr.index 92 (.agg (u32s [s0, s1, s2, s3, s4, s5, s6, s7])) (.int .i64 1)).run Tryd.prog w = .ok (.int .u32 s1) w := fun w => by kernel_rfl
              have x2 : ∀ w, (Instr.index 92 (.agg (u32s [s0, s1, s2, s3, s4, s5, s6, s7])) (.int .i64 2)).run Tryd.prog w = .ok (.int .u32 s2) w := fun w => by kernel_rfl
              have x3 : ∀ w, (Instr.index 92 (.agg (u32s [s0, s1, s2, s3, s4, s5, s6, s7])) (.int .i64 3)).run Tryd.prog w = .ok (.int .u32 s3) w := fun w => by kernel_rfl
              have x4 : ∀ w, (Instr.index 92 (.agg (u32s [s0, s1, s2, s3, s4, s5, s6, s7])) (.int .i64 4)).run Tryd.prog w = .ok (.int .u32 s4) w := fun w => by kernel_rfl
              have x5 : ∀ w, (Instr.index 92 (.agg (u32s [s0, s1, s2, s3, s4, s5, s6, s7])) (.int .i64 5)).run Tryd.prog w = .ok (.int .u32 s5) w := fun w => by kernel_rfl
              have x6 : ∀ w, (Instr.index 92 (.agg (u32s [s0, s1, s2, s3, s4, s5, s6, s7])) (.int .i64 6)).run Tryd.prog w = .ok (.int .u32 s6) w := fun w => by kernel_rfl
              have x7 : ∀ w, (Instr.index 92 (.agg (u32s [s0, s1, s2, s3, s4, s5, s6, s7])) (.int .i64 7)).run Tryd.prog w = .ok (.int .u32 s7) w := fun w => by kernel_rfl
              go_wp2_with (first | (refine wpList_load_row rfl 92 (.tmp 3) rfl w.heap.size rfl 92 (u32s [s0, s1, s2, s3, s4, s5, s6, s7]) (0, 0) _ HST.out Tryd.underlying92 rfl infoSt ?_) | fail)
              go_loopw [7, 47] (fun v k wz => ∃ (i : Nat) (A : Option Addr) (c : Nat) (q : List Int), i ≤ 8 ∧ k = .int .i64 i ∧ v = .slice A q.length c ∧ q = Sha.out ([s0, s1, s2, s3, s4, s5, s6, s7].take i) ∧ Own8 wz w.heap.size (.slice A q.length c) q ∧ Below w.heap.size w wz) (fun _ k _ => 8 - (intOf k).toNat)
              case atStart => exact ⟨0, none, 0, [], by omega, by go_num, rfl, rfl, Kd.R_nil _ _ _ _ _, HBY'.out⟩
              case round =>
                obtain ⟨i, A, c, q, hi, rfl, rfl, hq, ho, hb⟩ := hrel
                obtain ⟨wz, rfl⟩ : ∃ wz, wz = wr := ⟨_, rfl⟩
                have hszz := hb.size
                have HQ' := Lib.hid hq
                have HOZ := Lib.hid ho
                have HBZ := Lib.hid hb
                have hql : q.length ≤ 32 := by rw [hq, Sha.out_length, List.length_take]; simp; omega
                clear hq ho hb
                by_cases hlt : i < 8
                · have hcs : i = 0 ∨ i = 1 ∨ i = 2 ∨ i = 3 ∨ i = 4 ∨ i = 5 ∨ i = 6 ∨ i = 7 := by omega
                  rcases hcs with rfl | rfl | rfl | rfl | rfl | rfl | rfl | rfl
                  all_goals
                    clear hlt hi
                    go_wp2_with (first | (at_builtin; refine app_row (w0 := w) w.heap.size rfl (.tmp 50) (.tmp 62) rfl (.slice A q.length c) q (Sha.bytes4 _) (some ⟨wz.heap.size, 0, none⟩) 4 4 rfl rfl (Kd.R_alloc HOZ.out _) (rd_new wz (Sha.bytes4 _) (by simp [Sha.bytes4])) (HBZ.out.alloc hszz _) (by simp; omega) (by omega) ?_; intro v2 w2 ho2 hb2 hg2 _; have HO3 := Lib.hid ho2; have HB3 := Lib.hid hb2; clear ho2 hb2 hg2) | fail)
                    go_roundw
                    case rel =>
                      obtain ⟨A', c', rfl⟩ := Kd.R_slice HO3.out
                      (first | exact ⟨1, A', c', _, by omega, by go_num, rfl, by rw [HQ'.out, ← out_snoc]; rfl, HO3.out, HB3.out⟩ | exact ⟨2, A', c', _, by omega, by go_num, rfl, by rw [HQ'.out, ← out_snoc]; rfl, HO3.out, HB3.out⟩ | exact ⟨3, A', c', _, by omega, by go_num, rfl, by rw [HQ'.out, ← out_snoc]; rfl, HO3.out, HB3.out⟩ | exact ⟨4, A', c', _, by omega, by go_num, rfl, by rw [HQ'.out, ← out_snoc]; rfl, HO3.out, HB3.out⟩ | exact ⟨5, A', c', _, by omega, by go_num, rfl, by rw [HQ'.out, ← out_snoc]; rfl, HO3.out, HB3.out⟩ | exact ⟨6, A', c', _, by omega, by go_num, rfl, by rw [HQ'.out, ← out_snoc]; rfl, HO3.out, HB3.out⟩ | exact ⟨7, A', c', _, by omega, by go_num, rfl, by rw [HQ'.out, ← out_snoc]; rfl, HO3.out, HB3.out⟩ | exact ⟨8, A', c', _, by omega, by go_num, rfl, by rw [HQ'.out, ← out_snoc]; rfl, HO3.out, HB3.out⟩)
                    case measure => simp [intOf]
                · obtain rfl : i = 8 := by omega
                  have hcv := own_string (P := Tryd.prog) Tryd.underlying76 Tryd.underlying5 Tryd.underlying9 (Kd.own_of_R HOZ.out)
                  go_wp2
                  go_ret
                  refine ⟨?_, HBZ.out⟩
                  have hq8 : q = Sha.out [s0, s1, s2, s3, s4, s5, s6, s7] := HQ'.out
                  have hsum : strOfNums q = Sha.sum l0 := by rw [hq8, HFIN.out]; rfl
                  show Ending.returned (.string (strOfNums q)) = _
                  rw [hsum]
end Go.Proofs.YtopacnaiedlaaaaDoor
end
section
/-
  (seats without sha.Mac) A row of bytes that a conversion of a text has laid (the model marks it), and an append onto it.
-/
namespace Go.Proofs.YtopacnaiedlaaaaDoor
open Go.RowKit Go.Proofs.YtopacnaiedlaaaaDoorW.PrintWords Go.Proofs.YtopacnaiedlaaaaDoorW.PrintLast Go.Proofs.YtopacnaiedlaaaaDoorW.PrintMore
set_option linter.unusedVariables false
set_option linter.unusedSimpArgs false
/-- the row of a conversion: all of its cells lie ahead of the mark -/
def Marked8 (W : World) (base : Nat) (v : Value) (xs : List Int) : Prop :=
  ∃ g cap lo hi, ∃ cur : Array Value, v = .slice (some ⟨g, 0, none⟩) xs.length cap ∧ base ≤ g ∧ g < W.heap.size ∧ W.heap[g]? = some (.cells cur 5 (lo, hi)) ∧ cap ≤ lo ∧ xs.length ≤ cap ∧ cap ≤ maxLen ∧ cur.size = cap ∧ cur.toList.take xs.length = xs.map (Value.int .u8)
/-- a row of the call's own, or one of a conversion's -/
def Any8 (W : World) (base : Nat) (v : Value) (xs : List Int) : Prop := Own8 W base v xs ∨ Marked8 W base v xs
theorem marked_conv (W : World) (s : ByteArray) (hs : s.size ≤ maxLen) : Marked8 (Lib.bytesWorld W 5 s) W.heap.size (.slice (some ⟨W.heap.size, 0, none⟩) s.size (grownCap W s.size 0 5)) (bytesOf s) := by
  have hge : s.size ≤ grownCap W s.size 0 5 := grownCap_ge _ _ _ _
  have hsz : (Lib.bytesCells W 5 s).size = grownCap W s.size 0 5 := by
    simp only [Lib.bytesCells, Array.size_append, Array.size_map, Array.size_replicate]
    have : s.data.size = s.size := rfl
    omega
  refine ⟨W.heap.size, _, _, _, _, by rw [bytesOf_length], Nat.le_refl _, by rw [Lib.bytesWorld_size]; omega, Lib.bytesWorld_at_new W 5 s, by rw [hsz]; exact Nat.le_refl _, by rw [bytesOf_length]; exact hge, grownCap_le_maxLen _ _ _ _ hs, hsz, ?_⟩
  rw [bytesOf_length]
  simp only [Lib.bytesCells, Array.toList_append, Array.toList_map, bytesOf, List.map_map]
  rw [List.take_append_of_le_length (by simp), List.take_of_length_le (by simp)]
  rfl
theorem marked_cell {W : World} {g lo hi : Nat} {cur : Array Value} {xs : List Int} (hh : W.heap[g]? = some (.cells cur 5 (lo, hi))) (ht : cur.toList.take xs.length = xs.map (Value.int .u8)) (j : Nat) (hj : j < xs.length) : W.cell? ⟨g, j, none⟩ = some (.int .u8 (xs.getD j 0)) := by
  have h1 : (cur.toList.take xs.length)[j]? = (xs.map (Value.int .u8))[j]? := by rw [ht]
  rw [List.getElem?_take_of_lt hj, List.getElem?_map, List.getElem?_eq_getElem hj] at h1
  simp only [World.cell?, hh]
  simp at h1 ⊢
  rw [h1, List.getElem?_eq_getElem hj]
  rfl
theorem any_reads {W : World} {base : Nat} {v : Value} {xs : List Int} (h : Any8 W base v xs) : ∃ A c, v = .slice A xs.length c ∧ xs.length ≤ c ∧ Kd.C (Kd.int .u8) W A xs.length xs := by
  rcases h with h | ⟨g, cap, lo, hi, cur, rfl, hb, hg, hh, hlo, hle, hmx, hsz, ht⟩
  · obtain ⟨A, c, rfl⟩ := Kd.R_slice h
    obtain ⟨_, h2, h3⟩ := Kd.R_reads' h
    exact ⟨A, c, rfl, h2, h3⟩
  · refine ⟨_, _, rfl, hle, Kd.C_of_reads (d := (0 : Int)) (h1 := fun _ => rfl) ⟨rfl, by simp only [maxLen] at hmx; omega, fun _ => ⟨_, rfl, fun j hj => ?_⟩⟩⟩
    rw [add_plain]
    exact marked_cell hh ht j hj
section
variable {ops : Array Oper} {rest : List Oper} {o : Oper} {a : Act} {Q : Exit → Act → World → Prop}
end
end Go.Proofs.YtopacnaiedlaaaaDoor
end
