-- JOINED BY A PROGRAM OF THIS PLACE (wip/tools/pack.py) out of: TFold F43
import Derived.Shelf.RegionOpen
import Derived.Shelf.Abstract
import Derived.Test.YtopacnaiedlaaaaDoorL13
import Derived.Test.YtopacnaiedlaaaaDoorL25
import Derived.Test.YtopacnaiedlaaaaDoorL26
import Derived.Test.YtopacnaiedlaaaaDoorL28
import Derived.Test.YtopacnaiedlaaaaDoorL37
section
/-
  tile.Fold: its walk and its contract.
-/
namespace Go.Proofs.YtopacnaiedlaaaaDoor
open Go.RowKit Go.Proofs.YtopacnaiedlaaaaDoorW.PrintWords Go.Proofs.YtopacnaiedlaaaaDoorW.PrintLast Go.Proofs.YtopacnaiedlaaaaDoorW.PrintMore Go.Proofs.YtopacnaiedlaaaaDoorR
set_option linter.unusedVariables false
set_option linter.unusedSimpArgs false
attribute [local go_sem] Oper.semAt_some
theorem bcell {W w1 : World} (hb : Below W.heap.size W w1) : (∀ b o, b < W.heap.size → w1.cell? ⟨b, o, none⟩ = W.cell? ⟨b, o, none⟩) ∧ (∀ b o, b < W.heap.size → w1.frozen? ⟨b, o, none⟩ = W.frozen? ⟨b, o, none⟩) :=
  ⟨fun b o h => hb.cell (p := ⟨b, o, none⟩) h, fun b o h => hb.frozen (p := ⟨b, o, none⟩) h⟩
def tfold (l : List ByteArray) : Nat → Option ByteArray
  | 0 => some (l.getD (l.length - 1) ByteArray.empty)
  | k + 1 => (tfold l k).bind fun h => F.hash_Node.f (l.getD (l.length - 2 - k) ByteArray.empty) h
def tile_Fold.f (l : List ByteArray) : Option ByteArray := if l.length = 0 then some (Hs.root []) else if l.length ≤ 9223372036854775806 then tfold l (l.length - 1) else none
theorem tfold_pre (l : List ByteArray) : ∀ (m k : Nat) (r : ByteArray), k ≤ m → tfold l m = some r → ∃ z, tfold l k = some z
  | 0, k, r, h, e => ⟨r, by rw [Nat.le_zero.1 h]; exact e⟩
  | m + 1, k, r, h, e => by
    rcases Nat.lt_or_ge k (m + 1) with hk | hk
    · obtain ⟨z, hz, _⟩ := Option.bind_eq_some_iff.1 e
      exact tfold_pre l m k z (by omega) hz
    · exact ⟨r, by rw [show k = m + 1 by omega]; exact e⟩
set_option maxHeartbeats 4000000 in
set_option maxRecDepth 100000 in
theorem root_none (a : Int) (A : Option Addr) (c : Nat) (kk : Nat) (w : World) (hr : RdT w A []) (h : spanOk a [] = true) (hkk : F.hash_Root.f kk [] = some (Hs.root [])) :
    Calls Tryd.prog 39 #[.agg #[.int .i64 a, .slice A 0 c]] w fun e w' => e = .returned (.tuple #[.string (Hs.root []), .int .i64 0]) ∧ Below w.heap.size w w' := by
  have HR := Lib.hid hr
  have HK := Lib.hid hkk
  have hck := Lib.hid (show span_Check.f a [] = some 0 from congrArg some (if_pos h))
  clear hr h hkk
  go_enter Tryd.func39, Tryd.ntmps39
  go_wp2_with fail
  refine (span_Check.calls a A c [] 0 _ (Kd.C_alloc HR.out _) (Nat.zero_le _) hck.out).mono ?_
  rintro e w1 ⟨rfl, hb⟩
  have HB := Lib.hid (below_then ((Below.refl _ _).alloc (Nat.le_refl _) _) (by simp) hb)
  obtain ⟨hcl, hfz⟩ := bcell hb
  clear hb
  go_wp2_with fail
  refine (F.hash_Root.calls kk none 0 [] (Hs.root []) w1 (Kd.C_nil _ _) (Nat.le_refl _) HK.out).mono ?_
  rintro e w2 ⟨rfl, hb2⟩
  have HB2 := Lib.hid (below_then HB.out HB.out.size hb2)
  clear hb2
  go_wp2
  go_ret2
  exact ⟨rfl, HB2.out⟩
set_option maxHeartbeats 4000000 in
set_option maxRecDepth 100000 in
theorem fold_none (A : Option Addr) (c : Nat) (kk : Nat) (w : World) (hr : RdT w A []) (hkk : F.hash_Root.f kk [] = some (Hs.root [])) :
    Calls Tryd.prog 21 #[.slice A 0 c] w fun e w' => e = .returned (.string (Hs.root [])) ∧ Below w.heap.size w w' := by
  have HK := Lib.hid hkk
  clear hkk hr
  go_enter Tryd.func21, Tryd.ntmps21
  go_wp2_with fail
  refine (root_none 0 none 0 kk _ (Kd.C_nil _ _) (by decide) HK.out).mono ?_
  rintro e w1 ⟨rfl, hb⟩
  have HB := Lib.hid hb
  clear hb
  go_wp2
  go_ret
  exact ⟨rfl, HB.out⟩
structure FoldI (w : World) (ad : Addr) (c m : Nat) (l : List ByteArray) (bh bs k : Nat) (W : World) : Prop where
  bel : Below w.heap.size w W
  ch : ∃ z, tfold l k = some z ∧ W.heap[bh]? = some (.cells #[.string z] 9 (0, 0))
  cs : W.heap[bs]? = some (.cells #[.slice (some ad) m c] 47 (0, 0))
theorem FoldI.put {w : World} {ad : Addr} {c m : Nat} {l : List ByteArray} {bh bs k : Nat} {W : World} {l_ : Nat} {o o' : Obj} (hi : FoldI w ad c m l bh bs k W) (hn : w.heap.size ≤ l_) (hl : W.heap[l_]? = some o) (ho : o.isCells = false) : FoldI w ad c m l bh bs k (W.putObj l_ o') :=
  ⟨put_below hi.bel hn hl, by obtain ⟨z, h1, h2⟩ := hi.ch; exact ⟨z, h1, put_cells hl ho h2⟩, put_cells hl ho hi.cs⟩
theorem FoldI.alloc {w : World} {ad : Addr} {c m : Nat} {l : List ByteArray} {bh bs k : Nat} {W : World} (hi : FoldI w ad c m l bh bs k W) (o : Obj) : FoldI w ad c m l bh bs k (W.alloc o) :=
  have lt : ∀ {b : Nat} {o' : Obj}, W.heap[b]? = some o' → (W.alloc o).heap[b]? = some o' := fun hb => (Below.heap_alloc W o _ (Array.getElem?_eq_some_iff.1 hb).1).trans hb
  ⟨hi.bel.alloc hi.bel.size _, by obtain ⟨z, h1, h2⟩ := hi.ch; exact ⟨z, h1, lt h2⟩, lt hi.cs⟩
theorem tfold_step (l : List ByteArray) (m k : Nat) (z : ByteArray) (hm : m = l.length - 1) (hk : k < m) (h : tfold l k = some z) : tfold l (k + 1) = F.hash_Node.f (backVal (l.take m) k) z := by
  have hl : (l.take m).length = m := by rw [List.length_take]; omega
  rw [tfold, h, Option.bind_some, backVal, hl, show l.length - 2 - k = m - 1 - k by omega]
  congr 1
  rw [List.getD_eq_getElem?_getD, List.getD_eq_getElem?_getD, List.getElem?_take_of_lt (by omega)]
set_option maxHeartbeats 8000000 in
set_option maxRecDepth 100000 in
theorem fold_some (A : Option Addr) (c : Nat) (l : List ByteArray) (r : ByteArray) (w : World) (hr : RdT w A l) (hc : l.length ≤ c) (hp : 0 < l.length) (hlen : l.length ≤ 9223372036854775806) (hf : tfold l (l.length - 1) = some r) :
    Calls Tryd.prog 21 #[.slice A l.length c] w fun e w' => e = .returned (.string r) ∧ Below w.heap.size w w' := by
  have HR := Lib.hid hr
  obtain ⟨n, hn⟩ : ∃ n, n = l.length := ⟨_, rfl⟩
  have HN := Lib.hid hn
  obtain ⟨m, hm⟩ : ∃ m, m = n - 1 := ⟨_, rfl⟩
  have e0 : ((n : Int) == 0) = false := by simp; omega
  have wm : IntKind.i64.wrap ((n : Int) - 1) = (m : Int) := by rw [show ((n : Int) - 1) = (m : Int) by omega]; exact IntWalk.i64_in _ (by omega)
  have i0 : (0 : Int) ≤ (m : Int) := by omega
  have i1 : (m : Int) < (n : Int) := by omega
  have i2 : m < n := by omega
  obtain ⟨ad, rfl, hx⟩ := Kd.at_string hr (m : Int) (by omega) (by omega)
  simp only [rdOf, Int.toNat_natCast] at hx
  obtain ⟨x, hxx⟩ : ∃ x, x = l.getD m ByteArray.empty := ⟨_, rfl⟩
  rw [← hxx] at hx
  have HX := Lib.hid hxx
  have HXC := Lib.hid hx
  obtain ⟨i9, hi9, _, _, _⟩ := info_parts infoT
  have hcut : ∀ W : World, (Instr.slice 47 (.slice (some ad) n c) none (some (.int .i64 (m : Int))) none).run Tryd.prog W = .ok (.slice (some ad) m c) W := by
    intro W
    have := cut_to (P := Tryd.prog) 47 9 .i64 Tryd.underlying47 hi9 (some ad) n c (m : Int) (by omega) (by omega) (by omega) W
    rwa [Int.toNat_natCast] at this
  have HM := Lib.hid hm
  have HF := Lib.hid hf
  have HLEN := Lib.hid hlen
  clear hr hx hxx hf hlen
  rw [← hn] at hp hc ⊢
  have HC : Hid (n ≤ c) := Lib.hid hc
  clear hn hm
  refine (callsIn_wide (n := 3)).1 ?_
  refine callsIn_of_wp_marks Tryd.func21 rfl trivial ?_ rfl
  simp only [Tryd.ntmps21, List.size_toArray, List.length_cons, List.length_nil, Nat.reduceAdd, Nat.reduceSub, Array.replicate_succ, Array.replicate_zero, List.push_toArray, List.append_toArray, List.nil_append, List.cons_append]
  have cx := HXC.out
  gi_wp2_with (first | (gi_at_call 40; fail) | gi_in)
  refine ⟨trivial, ?_⟩
  clear cx
  have htl : (l.take m).length = m := by rw [List.length_take, ← HN.out]; omega
  have hBK := back_calls (some ad) c (l.take m) (w.alloc (.cells #[.string x] 9)) (Kd.C_alloc (Kd.C_take HR.out (by rw [← HN.out]; omega)) _)
  rw [htl] at hBK
  refine (callsIn_wide.2 hBK).mono ?_
  rintro e W0 ⟨rfl, hst, hb0⟩
  have hx0 : x = l.getD (l.length - 1) ByteArray.empty := by rw [← HN.out, ← HM.out, ← HX.out]
  have hs1 : (w.alloc (.cells #[.string x] 9)).heap.size = w.heap.size + 1 := by simp
  rw [hs1] at hst ⊢
  have h0 : FoldI w ad c m l w.heap.size (w.heap.size + 1) 0 W0 := ⟨below_then ((Below.refl _ _).alloc (Nat.le_refl _) _) (by omega) hb0, ⟨x, by rw [tfold, ← hx0], (hb0.block _ (by omega)).trans (blk_new w _)⟩, by have := hst.cs; rwa [htl] at this⟩
  have hz0 : w.heap.size + 1 ≤ W0.heap.size := by have := hb0.size; omega
  have HTL := Lib.hid htl
  have HML := Lib.hid (show m ≤ 9223372036854775806 by have := HN.out; have := HM.out; have := HLEN.out; omega)
  clear hst hb0 hBK htl hx0 hs1
  gi_wp2
  refine wpIn_rangeFunc_simA (gf := 60) (lb := #[.pointer (some ⟨w.heap.size + 1, 0, none⟩)]) rfl (enters_of Tryd.func60 (by kernel_rfl) rfl) (backEnc (l.take m)) (l.take m).length (fun _ => rfl)
    (fun _ => BackSt (w.heap.size + 1) (some ad) c (l.take m)) (fun _ W => W) (back1_sim (w.heap.size + 1) (some ad) c (l.take m) (by rw [HTL.out]; exact HML.out)) (fun _ _ _ _ => rfl)
    (fun k W => FoldI w ad c m l w.heap.size (w.heap.size + 1) k W) (fun k W => FoldI w ad c m l w.heap.size (w.heap.size + 1) k W) (fun _ => False)
    (fun k W l_ o o' hi hl hw ho => hi.put (by omega) hw ho) (fun k W l_ o o' hi hl hw ho => hi.put (by omega) hw ho) (fun _ _ _ _ h _ _ _ => h)
    (fun k W hk hi => ⟨⟨by rw [HTL.out]; exact hi.cs, Kd.C_take (Kd.C_below HR.out hi.bel) (by rw [← HN.out]; omega)⟩, hi⟩)
    (fun k W hi => ⟨by rw [HTL.out]; exact hi.cs, Kd.C_take (Kd.C_below HR.out hi.bel) (by rw [← HN.out]; omega)⟩) (fun r => (h0.alloc _).alloc _)
    (fun k => { tmps := #[.slice (some ad) n c, undef, .string { data := #[] }, undef, undef, .pointer (some ⟨w.heap.size, 0, none⟩), undef, .string (backVal (l.take m) k), .slice (some ad) n c, .int .i64 ↑n, .bool false, undef, undef, undef, undef, undef, undef, .slice (some ad) n c, .slice (some ad) n c, .int .i64 ↑n, .int .i64 ↑m, .pointer (some (ad.add m)), .string x, .slice (some ad) n c, .slice (some ad) n c, .int .i64 ↑n, .int .i64 ↑m, .slice (some ad) m c, .func (.func 60) #[] #[.pointer (some ⟨w.heap.size + 1, 0, none⟩)], .int .i64 ((m - 1 - k : Nat) : Int), .string (backVal (l.take m) k), undef, undef, undef, undef], defers := [] }) ?assign ?body ?done ?stop
  case assign =>
    intro l_ k W K hK
    have he : backEnc (l.take m) k = #[.int .i64 ((m - 1 - k : Nat) : Int), .string (backVal (l.take m) k)] := by unfold backEnc; rw [HTL.out]
    rw [he]
    clear he
    generalize backVal (l.take m) k = y at *
    gi_wp2
    exact hK
  case body =>
    intro l_ k W hi hk
    rw [HTL.out] at hk
    obtain ⟨z, hz, hch⟩ := hi.ch
    have ch := cell_of_one hch
    obtain ⟨z', hz'⟩ := tfold_pre l m (k + 1) r (by omega) (by have := HF.out; rwa [← HN.out, ← HM.out] at this)
    have hfd := tfold_step l m k z (by rw [← HN.out]; exact HM.out) hk hz
    have HI := Lib.hid hi
    have HCH := Lib.hid hch
    have HZ' := Lib.hid hz'
    have HND := Lib.hid (hfd.symm.trans hz')
    generalize backVal (l.take m) k = y at *
    clear hi hz hch hz' hfd
    gi_wp2_with (refine ⟨trivial, ?_⟩; gi_at_call 41; refine (CallsIn.inRound l_ (callsIn_wide.2 (F.hash_Node.calls y z z' _ HND.out))).mono ?_; rintro e W' ⟨rfl, hb'⟩; have h1 : W'.heap[w.heap.size]? = some (.cells #[.string z] 9 (0, 0)) := ((hb'.block _ (blk_lt HCH.out)).trans HCH.out); have h2 := ((hb'.block _ (blk_lt HI.out.cs)).trans HI.out.cs); have h3 := below_then HI.out.bel HI.out.bel.size hb'; have HK := Lib.hid (keeps_below hb'); have H1 := Lib.hid h1; have H2 := Lib.hid h2; have H3 := Lib.hid h3; have fr := free_of_one h1; have c5 := cell_of_one h1; clear hb' h1 h2 h3)
    refine ⟨HK.out.trans (KeepsOthers.setCell W' ⟨w.heap.size, 0, none⟩ _), H3.out.setCell (p := ⟨w.heap.size, 0, none⟩) (Nat.le_refl _) _, ⟨z', HZ'.out, one_setCell H1.out⟩, ?_⟩
    exact (Below.heap_setCell W' ⟨w.heap.size, 0, none⟩ _ _ (by show w.heap.size + 1 ≠ w.heap.size; omega)).trans H2.out
  case done =>
    intro W hi hD
    rw [HTL.out] at hi
    obtain ⟨z, hz, hch⟩ := hi.ch
    have hzr : z = r := by have := HF.out; rw [← HN.out, ← HM.out, hz] at this; exact Option.some.inj this
    subst hzr
    have ch := cell_of_one hch
    have HI := Lib.hid hi
    have HD := Lib.hid hD
    clear hi hD hz hch
    gi_wp2
    refine ⟨by simp, .inl ⟨_, _, rfl, run_takeDeferred HD.out, ?_⟩⟩
    refine ⟨.string z, ?_, rfl, put_below HI.out.bel (by omega) HD.out⟩
    simp [results, Tryd.f21, go_sem]
  case stop =>
    intro W h
    exact h.elim
theorem tile_Fold.calls (A0 : Option Addr) (c0 : Nat) (l0 : List ByteArray) (r : ByteArray) (w : World) (hr0 : Kd.C Kd.string w A0 l0.length l0) (hc0 : l0.length ≤ c0) (h : tile_Fold.f l0 = some r) :
    Calls Tryd.prog 21 #[.slice A0 l0.length c0] w fun e w' => e = .returned (.string r) ∧ Below w.heap.size w w' := by
  unfold tile_Fold.f at h
  by_cases h0 : l0.length = 0
  · rw [if_pos h0] at h
    obtain rfl := Option.some.inj h
    obtain rfl : l0 = [] := List.eq_nil_of_length_eq_zero h0
    obtain ⟨kk, hkk⟩ := (F.root_ev 0 [] rfl (by omega) (fun x hx => by cases hx)).rounds
    exact fold_none A0 c0 kk w hr0 hkk
  · rw [if_neg h0] at h
    by_cases h1 : l0.length ≤ 9223372036854775806
    · rw [if_pos h1] at h
      exact fold_some A0 c0 l0 r w hr0 hc0 (by omega) h1 h
    · rw [if_neg h1] at h
      cases h
end Go.Proofs.YtopacnaiedlaaaaDoor
end
section
-- WRITTEN BY A PROGRAM OF THIS PLACE (wip/tools/pp.sh: the print, turned for functions proved by hand). Lean checks it.
namespace Go.Proofs.YtopacnaiedlaaaaDoor.F
open Go.RowKit Go.Proofs.YtopacnaiedlaaaaDoorW.PrintWords Go.Proofs.YtopacnaiedlaaaaDoorW.PrintLast Go.Proofs.YtopacnaiedlaaaaDoorW.PrintMore
attribute [local go_sem] max2_int min2_int max_two min_two max_three min_three max_four min_four   -- for this text's walks alone
set_option linter.unusedVariables false
set_option linter.unusedSimpArgs false
/-! ### sawyerlaw17_fold: function 24 -/
def sawyerlaw17_fold.l0 : Nat → List ByteArray → List (S29) → List ByteArray → Int → Option (ByteArray × Bool)
  | 0, _, _, _, _ => none
  | k + 1, x0, x1, x6, x7 => if x7 < (x1.length : Int) then (if 0 ≤ x7 then ((sawyerlaw17_kept.f k x0 ((rd_T29 x1 x7).f0) ((rd_T29 x1 x7).f1)).bind fun bt432 => (if bt432.2 = true then (if x6.length < 8796093022208 then (sawyerlaw17_fold.l0 k x0 x1 (x6 ++ [bt432.1]) (wrap64 (x7 + 1))) else (none)) else (some ((⟨#[]⟩ : ByteArray), false)))) else (none)) else ((tile_Fold.f x6).bind fun t437 => (some (t437, true)))
def sawyerlaw17_fold.f (k : Nat) (l0 : List ByteArray) (l1 : List (S29)) : Option (ByteArray × Bool) := sawyerlaw17_fold.l0 k l0 l1 ([] : List ByteArray) 0
set_option maxHeartbeats 8000000 in
set_option maxRecDepth 100000 in
theorem sawyerlaw17_fold.calls (k : Nat) (A0 : Option Addr) (c0 : Nat) (l0 : List ByteArray) (A1 : Option Addr) (c1 : Nat) (l1 : List (S29)) (r1 : ByteArray) (r2 : Bool) (w : World) (hr0 : Kd.C Kd.string w A0 l0.length l0) (hc0 : l0.length ≤ c0) (hr1 : Kd.C k29 w A1 l1.length l1) (hc1 : l1.length ≤ c1) (h : sawyerlaw17_fold.f k l0 l1 = some (r1, r2)) :
    Calls Tryd.prog 24 #[.slice A0 l0.length c0, .slice A1 l1.length c1] w fun e w' => e = .returned (.tuple #[.string r1, .bool r2]) ∧ Below w.heap.size w w' := by
  (have hu29 := Tryd.underlying29); (have HR0 := Aside0.mk hr0); (have HC0 := Aside0.mk hc0); (clear hr0 hc0); (have HR1 := Aside0.mk hr1); (have HC1 := Aside0.mk hc1); (clear hr1 hc1); (have HB := Aside0.mk (Below.refl w.heap.size w)); (have H : (sawyerlaw17_fold.l0 k l0 l1 ([] : List ByteArray) 0) = some (r1, r2) := h); (clear h); (have H' := Aside0.mk H); (clear H); (go_enter Tryd.func24, Tryd.ntmps24); (go_wp2); (go_loopg [6, 7] k (fun kq v6 v7 w' => ∃ (x6_1 : List ByteArray) (x7_1 : Int), v7 = .int .i64 x7_1 ∧ Aside0 (sawyerlaw17_fold.l0 kq l0 l1 x6_1 x7_1 = some (r1, r2)) ∧ Aside0 (kq ≤ k) ∧ Aside0 (Kd.R Kd.string 9 w' w.heap.size (fun _ => True) v6 x6_1) ∧ Aside0 (Below w.heap.size w w')))
  case atStart => exact ⟨(([] : List ByteArray)), (0), (by first | rfl | (simp; done) | (simp [*]; done)), H', ⟨Nat.le_refl _⟩, ⟨by first | exact Kd.R_nil _ _ _ _ _ | exact Kd.N_nil _ _ _ _ _ | exact Kd.V_nil _ _ _ _ _ | exact Kd.Q_nil _ _ _ _ _ | exact Kd.S_nil _ _ _ _ _⟩, ⟨by repeat (first | (with_reducible first | exact HB.out | apply below_alloc | apply pw_below_drewN | apply below_drew1) | exact HB.out)⟩⟩
  case round =>
    (clear H'); (try clear c1); (try clear c2); (try clear p2); (obtain ⟨x6_1, x7_1, rfl, HA, HK1, HO_6, HB⟩ := hrel)
    cases gk with
    | zero => exact absurd HA.out (by simp [sawyerlaw17_fold.l0])
    | succ k1 =>
      (have H := HA.out); (clear HA); (simp only [sawyerlaw17_fold.l0] at H); (by_cases c3 : x7_1 < (l1.length : Int))
      · (rw [if_pos c3] at H); (have c3b0 : decide (x7_1 < (l1.length : Int)) = true := decide_eq_true c3); (clear c3); (by_cases c4 : 0 ≤ x7_1)
        · (rw [if_pos c4] at H); (have c4b0 : decide (0 ≤ x7_1) = true := decide_eq_true c4); (clear c4); (replace H := Option.bind_eq_some_iff.mp H); (obtain ⟨⟨t432, t433⟩, A50, H⟩ := H); (replace H : (if t433 = true then (if x6_1.length < 8796093022208 then (sawyerlaw17_fold.l0 k1 l0 l1 (x6_1 ++ [t432]) (wrap64 (x7_1 + 1))) else (none)) else (some ((⟨#[]⟩ : ByteArray), false))) = some (r1, r2) := H); (have A5 := Aside0.mk A50); (clear A50); (by_cases c6 : t433 = true)
          · (subst c6); (have H1 : (if x6_1.length < 8796093022208 then (sawyerlaw17_fold.l0 k1 l0 l1 (x6_1 ++ [t432]) (wrap64 (x7_1 + 1))) else (none)) = some (r1, r2) := by rw [if_pos rfl] at H; exact H); (clear H); (have H := H1); (clear H1); (by_cases c7 : x6_1.length < 8796093022208)
            · (rw [if_pos c7] at H); (have LMc7 := Aside0.mk c7); (clear c7); (obtain ⟨y434, hy434⟩ : ∃ y_ : List ByteArray, y_ = (x6_1 ++ [t432]) := ⟨_, rfl⟩); (replace H : (sawyerlaw17_fold.l0 k1 l0 l1 y434 (wrap64 (x7_1 + 1))) = some (r1, r2) := by first | (rw [hy434]; with_reducible exact H) | (have H2_ := (Option.bind_some _ _).symm.trans H; rw [hy434]; with_reducible exact H2_) | (have H2_ := (Option.bind_some _ _).symm.trans H; with_reducible exact H2_) | with_reducible exact H | (rw [hy434]; exact H) | exact H); (have Ny434 := Aside0.mk hy434); (clear hy434); (have H' := Aside0.mk H); (clear H); (have p431 : 0 ≤ (x7_1 : Int) := of_decide_eq_true (by first | (with_reducible assumption) | assumption)); (have q431 : x7_1 < (l1.length : Int) := of_decide_eq_true (by first | (with_reducible assumption) | assumption)); (obtain ⟨ad431, e431, hx431_0, hx431_1⟩ := at_T29 HR1.out x7_1 p431 q431)
              cases e431
              (replace hx431_0 := (HB.out.cell (World.block_lt_of_cell? w _ hx431_0)).trans hx431_0); (replace hx431_1 := (HB.out.cell (World.block_lt_of_cell? w _ hx431_1)).trans hx431_1); (replace p431 := eq_true p431); (replace q431 := eq_true q431); (go_wp2_with (first | ((with_reducible refine gate_callee (f := 45) rfl ?_); refine goesL_ (some 22) rfl rfl Tryd.func45 (by kernel_rfl) rfl #[.slice A0 l0.length c0, .agg #[.int .i64 ((rd_T29 l1 x7_1).f0), .int .i64 ((rd_T29 l1 x7_1).f1)]] rfl (by (try simp only [List.map_toArray, List.map_cons, List.map_nil]); first | done | rfl | (simp only [List.length_drop, List.length_take]; rfl)) ?_; (with_reducible refine (sawyerlaw17_kept.calls k1 _ _ l0 ((rd_T29 l1 x7_1).f0) ((rd_T29 l1 x7_1).f1) t432 true _ ?side1 ?side2 A5.out).mono ?_); (case side1 => repeat (first | exact (Kd.C_below HR0.out HB.out) | (with_reducible refine Kd.C_alloc ?_ _) | (with_reducible refine Kd.C_drewN ?_ _) | (with_reducible refine Kd.C_drew ?_))); (case side2 => exact HC0.out); rintro e w8 ⟨rfl, hb⟩; refine ⟨_, rfl, ?_⟩; have n0_ := Aside0.mk (Kd.R_below (by (with_reducible repeat (first | apply Kd.R_alloc | apply Kd.R_drewN | apply Kd.R_drew)); exact HO_6.out) hb); have n1_ := Aside0.mk (below_step (by repeat (first | (with_reducible first | exact HB.out | apply below_alloc | apply pw_below_drewN | apply below_drew1) | exact HB.out)) hb); clear HO_6; clear HB; have HO_6 := n0_; have HB := n1_; clear n0_ n1_; (try clear hb); (try clear hb2); (try clear hk); (try clear hi)) | ((with_reducible refine gate_builtin (b := .append) (xs := #[.tmp 27, .tmp 29]) rfl ?_); at_builtin; refine Kd.R_append Kd.string (w0 := w) w.heap.size rfl (.tmp 27) (.tmp 29) 47 9 (.string ⟨#[]⟩) 16 rfl Tryd.underlying47 info9 rfl (by decide) (by omega) u6 x6_1 t432 [.string t432] (fun _ => True) (fun _ => False) rfl rfl ?aP (fun _ hk => hk.elim) ?aF ?aO ?aB ?aS ?aL ?_; (case aP => exact rfl); (case aB => exact (by repeat (first | (with_reducible first | exact HB.out | apply below_alloc | apply pw_below_drewN | apply below_drew1) | exact HB.out))); (case aF => exact (fun _ _ => trivial)); (case aO => exact (by (with_reducible repeat (first | apply Kd.R_alloc | apply Kd.R_drewN | apply Kd.R_drew)); exact HO_6.out)); (case aS => exact (below_size (by repeat (first | (with_reducible first | exact HB.out | apply below_alloc | apply pw_below_drewN | apply below_drew1) | exact HB.out)))); (case aL => have := LMc7.out; omega); intro v435 w9 ho hb hg hat; rw [← Ny434.out] at ho; have n0_ := Aside0.mk (hb); have n1_ := Aside0.mk (ho); clear HB; clear HO_6; have HB := n0_; have HO436 := n1_; clear n0_ n1_; clear ho hb hg hat))); (go_roundg k1)
              case measure => have := HK1.out; omega
              case rel => exact ⟨(y434), (wrap64 (x7_1 + 1)), (by first | rfl | (simp; done) | (simp [*]; done)), H', ⟨by have := HK1.out; omega⟩, ⟨by (with_reducible repeat (first | apply Kd.R_alloc | apply Kd.R_drewN | apply Kd.R_drew)); exact HO436.out⟩, ⟨by repeat (first | (with_reducible first | exact HB.out | apply below_alloc | apply pw_below_drewN | apply below_drew1) | exact HB.out)⟩⟩
            focus ((rw [if_neg c7] at H); (exact absurd H (by simp)))
          · (replace c6 := Bool.eq_false_iff.mpr c6); (subst c6); (have H1 : (some ((⟨#[]⟩ : ByteArray), false)) = some (r1, r2) := by rw [if_neg (show ¬ (false = true) by decide)] at H; exact H); (clear H); (have H := H1); (clear H1); (simp only [Option.some.injEq, Prod.mk.injEq] at H); (obtain ⟨rfl, rfl⟩ := H); (have p431 : 0 ≤ (x7_1 : Int) := of_decide_eq_true (by first | (with_reducible assumption) | assumption)); (have q431 : x7_1 < (l1.length : Int) := of_decide_eq_true (by first | (with_reducible assumption) | assumption)); (obtain ⟨ad431, e431, hx431_0, hx431_1⟩ := at_T29 HR1.out x7_1 p431 q431)
            cases e431
            (replace hx431_0 := (HB.out.cell (World.block_lt_of_cell? w _ hx431_0)).trans hx431_0); (replace hx431_1 := (HB.out.cell (World.block_lt_of_cell? w _ hx431_1)).trans hx431_1); (replace p431 := eq_true p431); (replace q431 := eq_true q431); (go_wp2_with (first | ((with_reducible refine gate_callee (f := 45) rfl ?_); refine goesL_ (some 22) rfl rfl Tryd.func45 (by kernel_rfl) rfl #[.slice A0 l0.length c0, .agg #[.int .i64 ((rd_T29 l1 x7_1).f0), .int .i64 ((rd_T29 l1 x7_1).f1)]] rfl (by (try simp only [List.map_toArray, List.map_cons, List.map_nil]); first | done | rfl | (simp only [List.length_drop, List.length_take]; rfl)) ?_; (with_reducible refine (sawyerlaw17_kept.calls k1 _ _ l0 ((rd_T29 l1 x7_1).f0) ((rd_T29 l1 x7_1).f1) t432 false _ ?side1 ?side2 A5.out).mono ?_); (case side1 => repeat (first | exact (Kd.C_below HR0.out HB.out) | (with_reducible refine Kd.C_alloc ?_ _) | (with_reducible refine Kd.C_drewN ?_ _) | (with_reducible refine Kd.C_drew ?_))); (case side2 => exact HC0.out); rintro e w10 ⟨rfl, hb⟩; refine ⟨_, rfl, ?_⟩; have n0_ := Aside0.mk (Kd.R_below (by (with_reducible repeat (first | apply Kd.R_alloc | apply Kd.R_drewN | apply Kd.R_drew)); exact HO_6.out) hb); have n1_ := Aside0.mk (below_step (by repeat (first | (with_reducible first | exact HB.out | apply below_alloc | apply pw_below_drewN | apply below_drew1) | exact HB.out)) hb); clear HO_6; clear HB; have HO_6 := n0_; have HB := n1_; clear n0_ n1_; (try clear hb); (try clear hb2); (try clear hk); (try clear hi)))); (go_ret2); (exact ⟨by first | rfl | (simp [errW_none, errW_some] <;> rfl) | (simp [*, errW_none, errW_some] <;> rfl), by repeat (first | (with_reducible first | exact HB.out | apply below_alloc | apply pw_below_drewN | apply below_drew1) | exact HB.out)⟩)
        focus ((rw [if_neg c4] at H); (exact absurd H (by simp)))
      focus ((rw [if_neg c3] at H); (have c3b0 : decide (x7_1 < (l1.length : Int)) = false := decide_eq_false c3); (clear c3); (replace H := Option.bind_eq_some_iff.mp H); (obtain ⟨t437, A110, H⟩ := H); (replace H : (some (t437, true)) = some (r1, r2) := H); (have A11 := Aside0.mk A110); (clear A110); (simp only [Option.some.injEq, Prod.mk.injEq] at H); (obtain ⟨rfl, rfl⟩ := H); (obtain ⟨Ao12, co12, eo12⟩ := Kd.R_slice HO_6.out); (subst eo12); (go_wp2_with (first | ((with_reducible refine gate_callee (f := 21) rfl ?_); refine goesL_ (some 32) rfl rfl Tryd.func21 (by kernel_rfl) rfl #[.slice Ao12 x6_1.length co12] rfl (by (try simp only [List.map_toArray, List.map_cons, List.map_nil]); first | done | rfl | (simp only [List.length_drop, List.length_take]; rfl)) ?_; (with_reducible refine (tile_Fold.calls _ _ x6_1 t437 _ ?side1 ?side2 A11.out).mono ?_); (case side1 => repeat (first | exact (Kd.R_reads' HO_6.out).2.2 | (with_reducible refine Kd.C_alloc ?_ _) | (with_reducible refine Kd.C_drewN ?_ _) | (with_reducible refine Kd.C_drew ?_))); (case side2 => exact (Kd.R_reads' HO_6.out).2.1); rintro e w13 ⟨rfl, hb⟩; refine ⟨_, rfl, ?_⟩; have n0_ := Aside0.mk (Kd.R_below (by (with_reducible repeat (first | apply Kd.R_alloc | apply Kd.R_drewN | apply Kd.R_drew)); exact HO_6.out) hb); have n1_ := Aside0.mk (below_step (by repeat (first | (with_reducible first | exact HB.out | apply below_alloc | apply pw_below_drewN | apply below_drew1) | exact HB.out)) hb); clear HO_6; clear HB; have HO_6 := n0_; have HB := n1_; clear n0_ n1_; (try clear hb); (try clear hb2); (try clear hk); (try clear hi)))); (go_ret2); (exact ⟨by first | rfl | (simp [errW_none, errW_some] <;> rfl) | (simp [*, errW_none, errW_some] <;> rfl), by repeat (first | (with_reducible first | exact HB.out | apply below_alloc | apply pw_below_drewN | apply below_drew1) | exact HB.out)⟩))
end Go.Proofs.YtopacnaiedlaaaaDoor.F
end
