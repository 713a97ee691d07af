-- JOINED BY A PROGRAM OF THIS PLACE (wip/tools/pack.py) out of: SpRoot SpRef2 SpLaw SpOf SpCode SpInv
import Derived.Shelf.RegionOpen
import Derived.Shelf.Abstract
import Derived.Test.YtoihdghoopgdfaaX25
import Derived.Test.YtoihdghoopgdfaaX210
import Derived.Test.YtoihdghoopgdfaaX213
import Derived.Test.YtoihdghoopgdfaaX215
import Derived.Test.YtoihdghoopgdfaaX217
import Derived.Test.YtoihdghoopgdfaaX221
import Derived.Test.YtoihdghoopgdfaaX222
import Derived.Test.YtoihdghoopgdfaaX224
import Derived.Test.YtoihdghoopgdfaaX225
import Derived.Test.YtoihdghoopgdfaaX226
import Derived.Test.YtoihdghoopgdfaaX227
section
/-
  span.Root: its walk and its contract.
-/
namespace Go.Proofs.Ytoihdghoopgdfaa
open Go.RowKit Go.Proofs.YtoihdghoopgdfaaW.PrintWords Go.Proofs.YtoihdghoopgdfaaW.PrintLast Go.Proofs.YtoihdghoopgdfaaW.PrintMore Go.Proofs.YtoihdghoopgdfaaR
set_option linter.unusedVariables false
set_option linter.unusedSimpArgs false
attribute [local go_sem] Oper.semAt_some
namespace Sp
def folded (l : List ByteArray) : Nat → ByteArray
  | 0 => l.getD (l.length - 1) ByteArray.empty
  | k + 1 => Hs.node (l.getD (l.length - 2 - k) ByteArray.empty) (folded l k)
def fold (l : List ByteArray) : ByteArray := if l.length = 0 then Hs.root [] else folded l (l.length - 1)
theorem folded_size (l : List ByteArray) (h : sized l) (hp : 0 < l.length) : ∀ k, (folded l k).size = 32
  | 0 => sized_get h _ (by omega)
  | k + 1 => Hs.node_size _ _
end Sp
def span_Root.f (a0_0 : Int) (l0_1 : List ByteArray) : Option (ByteArray × Int) := some (if spanOk a0_0 l0_1 = true then (Sp.fold l0_1, 0) else (ByteArray.empty, 1))
set_option maxHeartbeats 4000000 in
set_option maxRecDepth 100000 in
theorem root_err (a : Int) (A : Option Addr) (c : Nat) (l : List ByteArray) (w : World) (hr : RdT w A l) (hc : l.length ≤ c) (h : ¬ spanOk a l = true) :
    Calls Try.prog 12 #[.agg #[.int .i64 a, .slice A l.length c]] w fun e w' => e = .returned (.tuple #[.string ByteArray.empty, .int .i64 1]) ∧ Below w.heap.size w w' := by
  have HR := Lib.hid hr
  have hck := Lib.hid (show span_Check.f a l = some 1 from congrArg some (if_neg h))
  clear hr h
  go_enter Try.func12, Try.ntmps12
  go_wp2_with fail
  refine (span_Check.calls a A c l 1 _ (Kd.C_alloc HR.out _) hc hck.out).mono ?_
  rintro e w1 ⟨rfl, hb⟩
  have HB := Lib.hid (below_then ((Below.refl _ _).alloc (Nat.le_refl _) _) (by simp) hb)
  clear hb
  go_wp2
  go_ret2
  exact ⟨rfl, HB.out⟩
set_option maxHeartbeats 4000000 in
set_option maxRecDepth 100000 in
theorem root_none (a : Int) (A : Option Addr) (c : Nat) (kk : Nat) (w : World) (hr : RdT w A []) (h : spanOk a [] = true) (hkk : F.hash_Root.f kk [] = some (Hs.root [])) :
    Calls Try.prog 12 #[.agg #[.int .i64 a, .slice A 0 c]] w fun e w' => e = .returned (.tuple #[.string (Hs.root []), .int .i64 0]) ∧ Below w.heap.size w w' := by
  have HR := Lib.hid hr
  have HK := Lib.hid hkk
  have hck := Lib.hid (show span_Check.f a [] = some 0 from congrArg some (if_pos h))
  clear hr h hkk
  go_enter Try.func12, Try.ntmps12
  go_wp2_with fail
  refine (span_Check.calls a A c [] 0 _ (Kd.C_alloc HR.out _) (Nat.zero_le _) hck.out).mono ?_
  rintro e w1 ⟨rfl, hb⟩
  have HB := Lib.hid (below_then ((Below.refl _ _).alloc (Nat.le_refl _) _) (by simp) hb)
  obtain ⟨hcl, hfz⟩ := bcell hb
  clear hb
  go_wp2_with fail
  refine (F.hash_Root.calls kk none 0 [] (Hs.root []) w1 (Kd.C_nil _ _) (Nat.le_refl _) HK.out).mono ?_
  rintro e w2 ⟨rfl, hb2⟩
  have HB2 := Lib.hid (below_then HB.out HB.out.size hb2)
  clear hb2
  go_wp2
  go_ret2
  exact ⟨rfl, HB2.out⟩
structure RootI (w : World) (ad : Addr) (c m : Nat) (l : List ByteArray) (bh bs k : Nat) (W : World) : Prop where
  bel : Below w.heap.size w W
  ch : W.heap[bh]? = some (.cells #[.string (Sp.folded l k)] 9 (0, 0))
  cs : W.heap[bs]? = some (.cells #[.slice (some ad) m c] 22 (0, 0))
theorem RootI.put {w : World} {ad : Addr} {c m : Nat} {l : List ByteArray} {bh bs k : Nat} {W : World} {l_ : Nat} {o o' : Obj} (hi : RootI w ad c m l bh bs k W) (hn : w.heap.size ≤ l_) (hl : W.heap[l_]? = some o) (ho : o.isCells = false) : RootI w ad c m l bh bs k (W.putObj l_ o') :=
  ⟨put_below hi.bel hn hl, put_cells hl ho hi.ch, put_cells hl ho hi.cs⟩
theorem RootI.alloc {w : World} {ad : Addr} {c m : Nat} {l : List ByteArray} {bh bs k : Nat} {W : World} (hi : RootI w ad c m l bh bs k W) (o : Obj) : RootI w ad c m l bh bs k (W.alloc o) :=
  have lt : ∀ {b : Nat} {o' : Obj}, W.heap[b]? = some o' → (W.alloc o).heap[b]? = some o' := fun hb => (Below.heap_alloc W o _ (Array.getElem?_eq_some_iff.1 hb).1).trans hb
  ⟨hi.bel.alloc hi.bel.size _, lt hi.ch, lt hi.cs⟩
theorem folded_step (l : List ByteArray) (m k : Nat) (hm : m = l.length - 1) (hk : k < m) : Sp.folded l (k + 1) = Hs.node (backVal (l.take m) k) (Sp.folded l k) := by
  have hl : (l.take m).length = m := by rw [List.length_take]; omega
  rw [Sp.folded, backVal, hl, show l.length - 2 - k = m - 1 - k by omega]
  congr 1
  rw [List.getD_eq_getElem?_getD, List.getD_eq_getElem?_getD, List.getElem?_take_of_lt (by omega)]
theorem backVal_size (l : List ByteArray) (m k : Nat) (hm : m = l.length - 1) (hk : k < m) (h : Sp.sized l) : (backVal (l.take m) k).size = 32 := by
  have hl : (l.take m).length = m := by rw [List.length_take]; omega
  exact Sp.sized_get (Sp.sized_take h m) _ (by omega)
set_option maxHeartbeats 8000000 in
set_option maxRecDepth 100000 in
theorem root_some (a : Int) (A : Option Addr) (c : Nat) (l : List ByteArray) (w : World) (hr : RdT w A l) (hc : l.length ≤ c) (h : spanOk a l = true) (hp : 0 < l.length) :
    Calls Try.prog 12 #[.agg #[.int .i64 a, .slice A l.length c]] w fun e w' => e = .returned (.tuple #[.string (Sp.folded l (l.length - 1)), .int .i64 0]) ∧ Below w.heap.size w w' := by
  have hsz : Sp.sized l := Sp.sized_of ((spanOk_iff a l).1 h).2.2.2
  have hlen : l.length ≤ 64 := by
    have h1 := ((spanOk_iff a l).1 h).2.2.1
    have h2 := Pop.pop_le 64 a.toNat
    unfold onesOf at h1
    omega
  have HR := Lib.hid hr
  have hck := Lib.hid (show span_Check.f a l = some 0 from congrArg some (if_pos h))
  have HSZ := Lib.hid hsz
  obtain ⟨n, hn⟩ : ∃ n, n = l.length := ⟨_, rfl⟩
  have HN := Lib.hid hn
  obtain ⟨m, hm⟩ : ∃ m, m = n - 1 := ⟨_, rfl⟩
  have e0 : ((n : Int) == 0) = false := by simp; omega
  have wm : IntKind.i64.wrap ((n : Int) - 1) = (m : Int) := by rw [show ((n : Int) - 1) = (m : Int) by omega]; exact IntWalk.i64_in _ (by omega)
  have i0 : (0 : Int) ≤ (m : Int) := by omega
  have i1 : (m : Int) < (n : Int) := by omega
  have i2 : m < n := by omega
  obtain ⟨ad, rfl, hx⟩ := Kd.at_string hr (m : Int) (by omega) (by omega)
  simp only [rdOf, Int.toNat_natCast] at hx
  obtain ⟨x, hxx⟩ : ∃ x, x = l.getD m ByteArray.empty := ⟨_, rfl⟩
  rw [← hxx] at hx
  have HX := Lib.hid hxx
  have HXC := Lib.hid hx
  obtain ⟨i9, hi9, _, _, _⟩ := info_parts infoT
  have hcut : ∀ W : World, (Instr.slice 22 (.slice (some ad) n c) none (some (.int .i64 (m : Int))) none).run Try.prog W = .ok (.slice (some ad) m c) W := by
    intro W
    have := cut_to (P := Try.prog) 22 9 .i64 Try.underlying22 hi9 (some ad) n c (m : Int) (by omega) (by omega) (by omega) W
    rwa [Int.toNat_natCast] at this
  have HM := Lib.hid hm
  clear hr h hsz hx hxx
  rw [← hn] at hp hc ⊢
  have HC : Hid (n ≤ c) := Lib.hid hc
  clear hn hm
  refine (callsIn_wide (n := 3)).1 ?_
  refine callsIn_of_wp_marks Try.func12 rfl trivial ?_ rfl
  simp only [Try.ntmps12, List.size_toArray, List.length_cons, List.length_nil, Nat.reduceAdd, Nat.reduceSub, Array.replicate_succ, Array.replicate_zero, List.push_toArray, List.append_toArray, List.nil_append, List.cons_append]
  gi_wp2_with (first | (gi_at_call 16; fail) | gi_in)
  refine ⟨trivial, ?_⟩
  have hCK := span_Check.calls a (some ad) c l 0 (w.alloc (.cells #[.int .i64 a, .slice (some ad) n c] 26)) (Kd.C_alloc HR.out _) (by rw [← HN.out]; exact HC.out) hck.out
  rw [← HN.out] at hCK
  refine (callsIn_wide.2 hCK).mono ?_
  rintro e w1 ⟨rfl, hb⟩
  have hG := (hb.block w.heap.size (by simp)).trans (blk_new w _)
  have hB1 := below_then ((Below.refl w.heap.size w).alloc (Nat.le_refl _) _) (by simp) hb
  have cg : w1.cell? ⟨w.heap.size, 1, none⟩ = some (.slice (some ad) n c) := by rw [blk_cell hG]; rfl
  have cx := pw_cell_below hB1 HXC.out
  have HG := Lib.hid hG
  have HB1 := Lib.hid hB1
  have hw1 : w.heap.size < w1.heap.size := blk_lt hG
  clear hb hG hB1 hCK
  gi_wp2_with (first | (gi_at_call 33; fail) | gi_in)
  refine ⟨trivial, ?_⟩
  have htl : (l.take m).length = m := by rw [List.length_take, ← HN.out]; omega
  have hBK := back_calls (some ad) c (l.take m) (w1.alloc (.cells #[.string x] 9)) (Kd.C_alloc (Kd.C_take (Kd.C_below HR.out HB1.out) (by rw [← HN.out]; omega)) _)
  rw [htl] at hBK
  refine (callsIn_wide.2 hBK).mono ?_
  rintro e W0 ⟨rfl, hst, hb0⟩
  have hx0 : x = Sp.folded l 0 := by rw [Sp.folded, ← HN.out, ← HM.out, ← HX.out]
  have hs1 : (w1.alloc (.cells #[.string x] 9)).heap.size = w1.heap.size + 1 := by simp
  rw [hs1] at hst ⊢
  have h0 : RootI w ad c m l w1.heap.size (w1.heap.size + 1) 0 W0 := ⟨below_then (HB1.out.alloc HB1.out.size _) (by omega) hb0, by rw [← hx0]; exact (hb0.block _ (by omega)).trans (blk_new w1 _), by have := hst.cs; rwa [htl] at this⟩
  have hz0 : w1.heap.size + 1 ≤ W0.heap.size := by have := hb0.size; omega
  have HTL := Lib.hid htl
  have hm64 : m ≤ 64 := by have := HN.out; omega
  clear hst hb0 hBK cg cx htl hx0 hs1
  gi_wp2
  refine wpIn_rangeFunc_simA (gf := 49) (lb := #[.pointer (some ⟨w1.heap.size + 1, 0, none⟩)]) rfl (enters_of Try.func49 (by kernel_rfl) rfl) (backEnc (l.take m)) (l.take m).length (fun _ => rfl)
    (fun _ => BackSt (w1.heap.size + 1) (some ad) c (l.take m)) (fun _ W => W) (back1_sim (w1.heap.size + 1) (some ad) c (l.take m) (by rw [HTL.out]; omega)) (fun _ _ _ _ => rfl)
    (fun k W => RootI w ad c m l w1.heap.size (w1.heap.size + 1) k W) (fun k W => RootI w ad c m l w1.heap.size (w1.heap.size + 1) k W) (fun _ => False)
    (fun k W l_ o o' hi hl hw ho => hi.put (by omega) hw ho) (fun k W l_ o o' hi hl hw ho => hi.put (by omega) hw ho) (fun _ _ _ _ h _ _ _ => h)
    (fun k W hk hi => ⟨⟨by rw [HTL.out]; exact hi.cs, Kd.C_take (Kd.C_below HR.out hi.bel) (by rw [← HN.out]; omega)⟩, hi⟩)
    (fun k W hi => ⟨by rw [HTL.out]; exact hi.cs, Kd.C_take (Kd.C_below HR.out hi.bel) (by rw [← HN.out]; omega)⟩) (fun r => (h0.alloc _).alloc _)
    (fun k => { tmps := #[.agg #[.int .i64 a, .slice (some ad) n c], .pointer (some ⟨w.heap.size, 0, none⟩), .string { data := #[] }, .int .i64 0, .int .i64 0, .pointer (some ⟨w1.heap.size, 0, none⟩), undef, .string (backVal (l.take m) k), .agg #[.int .i64 a, .slice (some ad) n c], .int .i64 0, .int .i64 0, .bool false, undef, .pointer (some ⟨w.heap.size, 1, none⟩), .slice (some ad) n c, .int .i64 ↑n, .bool false, undef, .pointer (some ⟨w.heap.size, 1, none⟩), .slice (some ad) n c, .pointer (some ⟨w.heap.size, 1, none⟩), .slice (some ad) n c, .int .i64 ↑n, .int .i64 ↑m, .pointer (some (ad.add m)), .string x, .pointer (some ⟨w.heap.size, 1, none⟩), .slice (some ad) n c, .pointer (some ⟨w.heap.size, 1, none⟩), .slice (some ad) n c, .int .i64 ↑n, .int .i64 ↑m, .slice (some ad) m c, .func (.func 49) #[] #[.pointer (some ⟨w1.heap.size + 1, 0, none⟩)], .int .i64 ((m - 1 - k : Nat) : Int), .string (backVal (l.take m) k), undef, undef, undef, undef], defers := [] }) ?assign ?body ?done ?stop
  case assign =>
    intro l_ k W K hK
    have he : backEnc (l.take m) k = #[.int .i64 ((m - 1 - k : Nat) : Int), .string (backVal (l.take m) k)] := by unfold backEnc; rw [HTL.out]
    rw [he]
    clear he
    generalize backVal (l.take m) k = y at *
    gi_wp2
    exact hK
  case body =>
    intro l_ k W hi hk
    rw [HTL.out] at hk
    have hsz := backVal_size l m k (by rw [← HN.out]; exact HM.out) hk HSZ.out
    have hfs := Sp.folded_size l HSZ.out (by rw [← HN.out]; exact hp) k
    have hfd := folded_step l m k (by rw [← HN.out]; exact HM.out) hk
    have ch := cell_of_one hi.ch
    have HI := Lib.hid hi
    generalize backVal (l.take m) k = y at *
    obtain ⟨z, hz⟩ : ∃ z, z = Sp.folded l k := ⟨_, rfl⟩
    rw [← hz] at ch hfs hfd
    have HND := Lib.hid (F.node_some y z (by omega))
    have HFD := Lib.hid hfd
    clear hsz hfs hfd hz hi
    gi_wp2_with (refine ⟨trivial, ?_⟩; gi_at_call 31; refine (CallsIn.inRound l_ (callsIn_wide.2 (F.hash_Node.calls y z (Hs.node y z) _ HND.out))).mono ?_; rintro e W' ⟨rfl, hb'⟩; have h1 : W'.heap[w1.heap.size]? = some (.cells #[.string (Sp.folded l k)] 9 (0, 0)) := ((hb'.block _ (blk_lt HI.out.ch)).trans HI.out.ch); have h2 := ((hb'.block _ (blk_lt HI.out.cs)).trans HI.out.cs); have h3 := below_then HI.out.bel HI.out.bel.size hb'; have HK := Lib.hid (keeps_below hb'); have H1 := Lib.hid h1; have H2 := Lib.hid h2; have H3 := Lib.hid h3; have fr := free_of_one h1; have c5 := cell_of_one h1; clear hb' h1 h2 h3)
    refine ⟨HK.out.trans (KeepsOthers.setCell W' ⟨w1.heap.size, 0, none⟩ _), H3.out.setCell (p := ⟨w1.heap.size, 0, none⟩) (by show w.heap.size ≤ w1.heap.size; omega) _, by rw [HFD.out]; exact one_setCell H1.out, ?_⟩
    exact (Below.heap_setCell W' ⟨w1.heap.size, 0, none⟩ _ _ (by show w1.heap.size + 1 ≠ w1.heap.size; omega)).trans H2.out
  case done =>
    intro W hi hD
    rw [HTL.out] at hi
    have ch := cell_of_one hi.ch
    have HI := Lib.hid hi
    have HD := Lib.hid hD
    obtain ⟨z, hz⟩ : ∃ z, z = Sp.folded l m := ⟨_, rfl⟩
    rw [← hz] at ch
    have HZ := Lib.hid hz
    clear hi hD hz
    gi_wp2
    refine ⟨by simp, .inl ⟨_, _, rfl, run_takeDeferred HD.out, ?_⟩⟩
    refine ⟨.tuple #[.string z, .int .i64 0], ?_, by rw [HZ.out, HM.out], put_below HI.out.bel (by omega) HD.out⟩
    simp [results, Try.f12, go_sem]
  case stop =>
    intro W h
    exact h.elim
theorem span_Root.calls (a0_0 : Int) (A0_1 : Option Addr) (c0_1 : Nat) (l0_1 : List ByteArray) (r1 : ByteArray) (r2 : Int) (w : World) (hr0_1 : Kd.C Kd.string w A0_1 l0_1.length l0_1) (hc0_1 : l0_1.length ≤ c0_1) (h : span_Root.f a0_0 l0_1 = some (r1, r2)) :
    Calls Try.prog 12 #[.agg #[.int .i64 a0_0, .slice A0_1 l0_1.length c0_1]] w fun e w' => e = .returned (.tuple #[.string r1, .int .i64 r2]) ∧ Below w.heap.size w w' := by
  unfold span_Root.f at h
  have h' := Option.some.inj h
  by_cases hok : spanOk a0_0 l0_1 = true
  · rw [if_pos hok] at h'
    injection h' with e1 e2
    rw [← e1, ← e2]
    unfold Sp.fold
    by_cases h0 : l0_1.length = 0
    · rw [if_pos h0]
      obtain rfl : l0_1 = [] := List.eq_nil_of_length_eq_zero h0
      obtain ⟨kk, hkk⟩ := (F.root_ev 0 [] rfl (by omega) (fun x hx => by cases hx)).rounds
      exact root_none a0_0 A0_1 c0_1 kk w hr0_1 hok hkk
    · rw [if_neg h0]
      exact root_some a0_0 A0_1 c0_1 l0_1 w hr0_1 hc0_1 hok (by omega)
  · rw [if_neg hok] at h'
    injection h' with e1 e2
    rw [← e1, ← e2]
    exact root_err a0_0 A0_1 c0_1 l0_1 w hr0_1 hc0_1 hok
end Go.Proofs.Ytoihdghoopgdfaa
end
section
/-
  The document's Fold, Root, Same of spans, as plain lists.
-/
namespace Go.Proofs.Ytoihdghoopgdfaa.F
open Go.RowKit Go.Proofs.Ytoihdghoopgdfaa Go.Proofs.YtoihdghoopgdfaaW.PrintWords Go.Proofs.YtoihdghoopgdfaaW.PrintLast Go.Proofs.YtoihdghoopgdfaaW.PrintMore
set_option linter.unusedVariables false
set_option linter.unusedSimpArgs false
theorem spanOk_short {a : Int} {l : List ByteArray} (h : spanOk a l = true) : Sp.sized l ∧ l.length ≤ 64 := by
  have h1 := (spanOk_iff a l).1 h
  refine ⟨Sp.sized_of h1.2.2.2, ?_⟩
  have h2 := Pop.pop_le 64 a.toNat
  have h3 := h1.2.2.1
  unfold onesOf at h3
  omega
theorem same16_ev (a : Int) (l : List ByteArray) (hl : l.length ≤ 9223372036854775806) : Ev (fun n => sawyerref16_Same.f n a l a l) true := by
  refine Ev.congr (f := fun n => (sawyerref15_Same.f n l l).bind fun t => some t) (fun n => ?_) (Ev.bind (f := fun _ t => some t) (same_some l hl) (Ev.now _))
  unfold sawyerref16_Same.f
  rw [if_pos rfl]
end Go.Proofs.Ytoihdghoopgdfaa.F
end
section
/-
  The nodes of a span of leaves: a leaf that is pushed makes them those of one leaf more; as one they are the leaves' root.
-/
namespace Go.Proofs.Ytoihdghoopgdfaa.Sp
open Go.RowKit Go.Proofs.Ytoihdghoopgdfaa Go.Proofs.YtoihdghoopgdfaaW.PrintWords
set_option linter.unusedVariables false
set_option linter.unusedSimpArgs false
def pairUp : List ByteArray → List ByteArray
  | [] => []
  | [a] => [a]
  | a :: b :: r => Hs.node a b :: pairUp r
theorem pairUp_length : ∀ l : List ByteArray, (pairUp l).length = (l.length + 1) / 2
  | [] => rfl
  | [a] => by simp [pairUp]
  | a :: b :: r => by
    rw [pairUp, List.length_cons, pairUp_length r, List.length_cons, List.length_cons]
    omega
theorem pairUp_even (b : List ByteArray) : ∀ l : List ByteArray, l.length % 2 = 0 → pairUp (l ++ b) = pairUp l ++ pairUp b
  | [], _ => rfl
  | [a], h => by simp at h
  | x :: y :: r, h => by
    have hr : r.length % 2 = 0 := by simp at h; omega
    rw [List.cons_append, List.cons_append, pairUp, pairUp, pairUp_even b r hr, List.cons_append]
theorem pairUp_take (c : Nat) : ∀ l : List ByteArray, pairUp (l.take (2 * c)) = (pairUp l).take c := by
  induction c with
  | zero => intro l; rfl
  | succ c ih =>
    intro l
    match l with
    | [] => simp [pairUp]
    | [a] => rw [show 2 * (c + 1) = 2 * c + 1 + 1 from rfl]; simp [pairUp]
    | a :: b :: r =>
      rw [show 2 * (c + 1) = 2 * c + 1 + 1 from rfl, List.take_succ_cons, List.take_succ_cons, pairUp, pairUp, List.take_succ_cons, ih]
theorem pairUp_drop (c : Nat) : ∀ l : List ByteArray, pairUp (l.drop (2 * c)) = (pairUp l).drop c := by
  induction c with
  | zero => intro l; rfl
  | succ c ih =>
    intro l
    match l with
    | [] => simp [pairUp]
    | [a] => rw [show 2 * (c + 1) = 2 * c + 1 + 1 from rfl]; simp [pairUp]
    | a :: b :: r =>
      rw [show 2 * (c + 1) = 2 * c + 1 + 1 from rfl, List.drop_succ_cons, List.drop_succ_cons, pairUp, List.drop_succ_cons, ih]
theorem pairUp_sized : ∀ l : List ByteArray, sized l → sized (pairUp l)
  | [], h => h
  | [a], h => h
  | a :: b :: r, h => by
    intro x hx
    rw [pairUp] at hx
    rcases List.mem_cons.1 hx with rfl | hx
    · exact Hs.node_size _ _
    · exact pairUp_sized r (fun y hy => h y (by simp [hy])) x hx
/-- a tree's root is that of its leaves taken by twos -/
theorem root_pairUp (n : Nat) : ∀ l : List ByteArray, l.length = n → Hs.root l = Hs.root (pairUp l) := by
  induction n using Nat.strongRecOn with
  | ind n ih =>
    intro l hl
    match l, hl with
    | [], _ => rfl
    | [a], _ => rfl
    | [a, b], _ =>
      rw [Hs.root_many [a, b] (by simp)]
      have hc : Hs.cut ([a, b] : List ByteArray).length = 1 := by
        have h1 := Hs.cut_lt 2 (by omega)
        have h2 := Hs.cut_pos 2
        show Hs.cut 2 = 1
        omega
      rw [hc]
      show Hs.node (Hs.root [a]) (Hs.root [b]) = Hs.root [Hs.node a b]
      rw [Hs.root_one, Hs.root_one, Hs.root_one]
    | a :: b :: c :: r, hl =>
      have h3 : 3 ≤ n := by simp at hl; omega
      generalize a :: b :: c :: r = l at *
      have hlt := Hs.cut_lt n (by omega)
      have htw := Hs.cut_two n (by omega)
      -- the cut of the pairs is half of it
      obtain ⟨e, he⟩ : ∃ e, Hs.cut n = 2 ^ e := ⟨_, rfl⟩
      obtain ⟨e', rfl⟩ : ∃ e', e = e' + 1 := by
        cases e with
        | zero => rw [he] at htw; simp at htw; omega
        | succ e' => exact ⟨e', rfl⟩
      have hp : 2 ^ (e' + 1) = 2 * 2 ^ e' := by rw [Nat.pow_succ]; omega
      have hpl : (pairUp l).length = (n + 1) / 2 := by rw [pairUp_length, hl]
      have hpos : 1 ≤ 2 ^ e' := Nat.one_le_two_pow
      have hc' : Hs.cut ((n + 1) / 2) = 2 ^ e' := by
        refine Hs.cut_eq _ e' (by omega) (by omega) (by omega)
      rw [Hs.root_many l (by omega), Hs.root_many (pairUp l) (by omega), hl, hpl, hc', he, hp]
      rw [ih _ (by rw [he, hp] at hlt; show 2 * 2 ^ e' < n; exact hlt) (l.take (2 * 2 ^ e')) (by rw [List.length_take, hl]; omega),
        ih (n - 2 * 2 ^ e') (by omega) (l.drop (2 * 2 ^ e')) (by rw [List.length_drop, hl]), pairUp_take, pairUp_drop]
/-- the roots of the perfect trees, the greatest first -/
def nodes (h : List ByteArray) : List ByteArray :=
  if h.length = 0 then [] else if h.length % 2 = 0 then nodes (pairUp h) else nodes (pairUp h.dropLast) ++ [h.getD (h.length - 1) ByteArray.empty]
  termination_by h.length
  decreasing_by
    · rw [pairUp_length]; omega
    · rw [pairUp_length, List.length_dropLast]; omega
theorem nodes_nil : nodes [] = [] := by
  rw [nodes]
  rfl
theorem nodes_even (h : List ByteArray) (he : h.length % 2 = 0) : nodes h = nodes (pairUp h) := by
  by_cases h0 : h.length = 0
  · obtain rfl : h = [] := List.eq_nil_of_length_eq_zero h0
    rfl
  · conv => lhs; rw [nodes]
    rw [if_neg h0, if_pos he]
theorem nodes_odd (h : List ByteArray) (a : ByteArray) (he : h.length % 2 = 0) : nodes (h ++ [a]) = nodes (pairUp h) ++ [a] := by
  rw [nodes, if_neg (by simp), if_neg (by simp; omega), List.dropLast_concat]
  congr 2
  rw [List.getD_eq_getElem?_getD]
  simp
theorem snoc_cases (l : List ByteArray) : l = [] ∨ ∃ r a, l = r ++ [a] := by
  rcases List.eq_nil_or_concat l with h | ⟨r, a, h⟩
  · exact .inl h
  · exact .inr ⟨r, a, by simpa using h⟩
theorem join2_two (l : List ByteArray) (a b : ByteArray) : join2 (l ++ [a] ++ [b]) = l ++ [Hs.node a b] := by
  unfold join2
  have h1 : (l ++ [a] ++ [b]).length - 2 = l.length := by simp
  have h2 : (l ++ [a] ++ [b]).length - 1 = l.length + 1 := by simp
  rw [h1, h2]
  congr 1
  · rw [List.append_assoc, List.take_left']
    rfl
  · congr 2
    · rw [List.getD_eq_getElem?_getD, List.append_assoc, List.getElem?_append_right (Nat.le_refl _)]
      simp
    · rw [List.getD_eq_getElem?_getD, List.append_assoc, List.getElem?_append_right (by omega)]
      simp
theorem carry_nodes (f : Nat) : ∀ (h : List ByteArray) (leaf : ByteArray), h.length < 2 ^ f → carry f h.length (nodes h ++ [leaf]) = nodes (h ++ [leaf]) := by
  induction f with
  | zero =>
    intro h leaf hl
    obtain rfl : h = [] := List.eq_nil_of_length_eq_zero (by simpa using hl)
    rw [nodes_nil, carry, nodes_odd [] leaf rfl]
    rw [show pairUp [] = [] from rfl, nodes_nil]
  | succ f ih =>
    intro h leaf hl
    rw [Nat.pow_succ] at hl
    rw [carry]
    by_cases ho : h.length % 2 = 1
    · rw [if_pos ho]
      rcases snoc_cases h with rfl | ⟨r, a, rfl⟩
      · simp at ho
      · have hr : r.length % 2 = 0 := by simp at ho; omega
        have hn : (r ++ [a]).length / 2 = (pairUp r).length := by rw [pairUp_length]; simp
        rw [nodes_odd r a hr, join2_two, hn, ih (pairUp r) (Hs.node a leaf) (by rw [← hn]; omega)]
        rw [nodes_even (r ++ [a] ++ [leaf]) (by simp; omega), List.append_assoc, pairUp_even _ r hr]
        rfl
    · rw [if_neg ho, nodes_odd h leaf (by omega), nodes_even h (by omega)]
theorem nodes_length (f : Nat) : ∀ h : List ByteArray, h.length < 2 ^ f → (nodes h).length = Pop.popAux f h.length := by
  induction f with
  | zero =>
    intro h hl
    obtain rfl : h = [] := List.eq_nil_of_length_eq_zero (by simpa using hl)
    rw [nodes_nil]
    rfl
  | succ f ih =>
    intro h hl
    rw [Nat.pow_succ] at hl
    rw [Pop.popAux]
    by_cases ho : h.length % 2 = 1
    · rcases snoc_cases h with rfl | ⟨r, a, rfl⟩
      · simp at ho
      · have hr : r.length % 2 = 0 := by simp at ho; omega
        have hn : (r ++ [a]).length / 2 = (pairUp r).length := by rw [pairUp_length]; simp
        rw [nodes_odd r a hr, List.length_append, ih (pairUp r) (by rw [← hn]; omega), ho, hn]
        simp
        omega
    · have hn : h.length / 2 = (pairUp h).length := by rw [pairUp_length]; omega
      rw [nodes_even h (by omega), ih (pairUp h) (by rw [← hn]; omega), hn, show h.length % 2 = 0 by omega, Nat.zero_add]
theorem nodes_sized (n : Nat) : ∀ h : List ByteArray, h.length = n → sized h → sized (nodes h) := by
  induction n using Nat.strongRecOn with
  | ind n ih =>
    intro h hl hs
    rcases snoc_cases h with rfl | ⟨r, a, rfl⟩
    · rw [nodes_nil]; exact hs
    · have hr1 : sized r := fun x hx => hs x (by simp [hx])
      have ha : a.size = 32 := hs a (by simp)
      have hl' : r.length + 1 = n := by simpa using hl
      by_cases ho : r.length % 2 = 0
      · rw [nodes_odd r a ho]
        exact sized_snoc (ih (pairUp r).length (by rw [pairUp_length]; omega) _ rfl (pairUp_sized r hr1)) ha
      · rw [nodes_even _ (by simp; omega)]
        exact ih (pairUp (r ++ [a])).length (by rw [pairUp_length]; simp; omega) _ rfl (pairUp_sized _ hs)
theorem nodes_ok (h : List ByteArray) (hs : sized h) (hl : h.length ≤ 1099511627776) : spanOk (h.length : Int) (nodes h) = true := by
  refine (spanOk_iff _ _).2 ⟨by omega, by omega, ?_, wholeB_of_sized (nodes_sized _ h rfl hs)⟩
  unfold onesOf
  rw [Int.toNat_natCast, nodes_length 64 h (by omega)]
theorem pushed_nodes (h : List ByteArray) (leaf : ByteArray) (hs : sized h) (hl : h.length < 1099511627776) (hx : leaf.size = 32) : pushed (h.length : Int) (nodes h) leaf = (((h ++ [leaf]).length : Int), nodes (h ++ [leaf]), 0) := by
  unfold pushed
  rw [if_pos ⟨nodes_ok h hs (by omega), by omega, hx⟩, Int.toNat_natCast, carry_nodes 64 h leaf (by omega)]
  simp
/-! ### as one -/
theorem folded_snoc (l : List ByteArray) (t : ByteArray) (k : Nat) (hk : k ≤ l.length) : folded (l ++ [t]) k = (l.drop (l.length - k)).foldr Hs.node t := by
  induction k with
  | zero =>
    rw [folded, Nat.sub_zero, List.drop_length, List.foldr_nil, List.getD_eq_getElem?_getD]
    simp
  | succ k ih =>
    rw [folded, ih (by omega)]
    have e : (l ++ [t]).length - 2 - k = l.length - (k + 1) := by simp; omega
    have hlt : l.length - (k + 1) < l.length := by omega
    rw [e, List.drop_eq_getElem_cons hlt, List.foldr_cons, show l.length - (k + 1) + 1 = l.length - k by omega]
    congr 1
    rw [List.getD_eq_getElem?_getD, List.getElem?_append_left hlt, List.getElem?_eq_getElem hlt]
    rfl
theorem fold_snoc (l : List ByteArray) (t : ByteArray) : fold (l ++ [t]) = l.foldr Hs.node t := by
  unfold fold
  rw [if_neg (by simp), show (l ++ [t]).length - 1 = l.length by simp, folded_snoc l t _ (Nat.le_refl _), Nat.sub_self, List.drop_zero]
theorem foldr_nodes (n : Nat) : ∀ (P : List ByteArray) (t : ByteArray), P.length = n → (nodes P).foldr Hs.node t = Hs.root (P ++ [t]) := by
  induction n using Nat.strongRecOn with
  | ind n ih =>
    intro P t hl
    rcases snoc_cases P with rfl | ⟨r, a, rfl⟩
    · rw [nodes_nil, List.foldr_nil, List.nil_append, Hs.root_one]
    · have hl' : r.length + 1 = n := by simpa using hl
      by_cases ho : r.length % 2 = 0
      · rw [nodes_odd r a ho, List.foldr_append, List.foldr_cons, List.foldr_nil, ih (pairUp r).length (by rw [pairUp_length]; omega) _ _ rfl]
        rw [root_pairUp _ (r ++ [a] ++ [t]) rfl, List.append_assoc, pairUp_even _ r ho]
        rfl
      · rw [nodes_even _ (by simp; omega), ih (pairUp (r ++ [a])).length (by rw [pairUp_length]; simp; omega) _ _ rfl]
        rw [root_pairUp _ (r ++ [a] ++ [t]) rfl, pairUp_even [t] (r ++ [a]) (by simp; omega)]
        rfl
theorem fold_nodes (n : Nat) : ∀ h : List ByteArray, h.length = n → fold (nodes h) = Hs.root h := by
  induction n using Nat.strongRecOn with
  | ind n ih =>
    intro h hl
    rcases snoc_cases h with rfl | ⟨r, a, rfl⟩
    · rw [nodes_nil]
      rfl
    · have hl' : r.length + 1 = n := by simpa using hl
      by_cases ho : r.length % 2 = 0
      · rw [nodes_odd r a ho, fold_snoc, foldr_nodes _ _ _ rfl, root_pairUp _ (r ++ [a]) rfl, pairUp_even _ r ho]
        rfl
      · rw [nodes_even _ (by simp; omega), ih (pairUp (r ++ [a])).length (by rw [pairUp_length]; simp; omega) _ rfl, ← root_pairUp _ (r ++ [a]) rfl]
end Go.Proofs.Ytoihdghoopgdfaa.Sp
end
section
/-
  span.Of of leaves; the five leaves of the document's example.
-/
namespace Go.Proofs.Ytoihdghoopgdfaa.F
open Go.RowKit Go.Proofs.Ytoihdghoopgdfaa Go.Proofs.YtoihdghoopgdfaaW.PrintWords Go.Proofs.YtoihdghoopgdfaaW.PrintLast Go.Proofs.YtoihdghoopgdfaaW.PrintMore
set_option linter.unusedVariables false
set_option linter.unusedSimpArgs false
theorem take_snoc_T (l : List ByteArray) (i : Nat) (h : i < l.length) : l.take (i + 1) = l.take i ++ [l.getD i ByteArray.empty] := by
  rw [List.take_succ_eq_append_getElem h, List.getD_eq_getElem?_getD, List.getElem?_eq_getElem h]
  rfl
theorem of_from (l : List ByteArray) (hs : Sp.sized l) (hl : l.length ≤ 1099511627776) (d : Nat) : ∀ i, i + d = l.length → Ev (fun k => span_Of.l0 k l (l.length : Int) (i : Int) (i : Int) (Sp.nodes (l.take i))) ((l.length : Int), Sp.nodes l, 0) := by
  induction d with
  | zero =>
    intro i hi
    refine Ev.step (f := fun _ => some _) (fun k => ?_) (Ev.now _)
    simp only [span_Of.l0]
    rw [if_neg (by omega), show i = l.length by omega, List.take_length]
  | succ d ih =>
    intro i hi
    have hlt : i < l.length := by omega
    have hp := Sp.pushed_nodes (l.take i) (l.getD i ByteArray.empty) (Sp.sized_take hs i) (by rw [List.length_take]; omega) (Sp.sized_get hs i hlt)
    rw [← take_snoc_T l i hlt, List.length_take, List.length_take, Nat.min_eq_left (by omega), Nat.min_eq_left (by omega)] at hp
    refine Ev.step (fun k => ?_) (ih (i + 1) (by omega))
    simp only [span_Of.l0]
    rw [if_pos (by omega), if_pos (by omega), if_pos (by omega), rdOf_nat', span_Push.f, hp, Option.bind_some]
    simp only [if_true]
    rw [show wrap64 ((i : Int) + 1) = ((i + 1 : Nat) : Int) by unfold wrap64; omega]
theorem of_ev (l : List ByteArray) (hs : Sp.sized l) (hl : l.length ≤ 1099511627776) : Ev (fun k => span_Of.f k l) ((l.length : Int), Sp.nodes l, 0) := by
  have := of_from l hs hl l.length 0 (by omega)
  rw [List.take_zero, Sp.nodes_nil] at this
  exact this
def lv (j : Nat) : List ByteArray := (List.range j).map fun i : Nat => Hs.leaf [(i : Int)]
theorem lv_succ (j : Nat) : lv (j + 1) = lv j ++ [Hs.leaf [(j : Int)]] := by
  unfold lv
  rw [List.range_succ, List.map_append]
  rfl
theorem lv_length (j : Nat) : (lv j).length = j := by simp [lv]
theorem lv_sized (j : Nat) : Sp.sized (lv j) := by
  intro x hx
  obtain ⟨i, _, rfl⟩ := List.mem_map.1 hx
  exact Hs.leaf_size _
theorem nodes5 : Sp.nodes (lv 5) = [Hs.root (lv 4), Hs.leaf [4]] := by
  rw [lv_succ 4, Sp.nodes_odd _ _ (by rw [lv_length])]
  have h2 : (Sp.pairUp (lv 4)).length = 2 := by rw [Sp.pairUp_length, lv_length]
  obtain ⟨x, y, hxy⟩ : ∃ x y, Sp.pairUp (lv 4) = [x, y] := by
    match hh : Sp.pairUp (lv 4), h2 with
    | [x, y], _ => exact ⟨x, y, rfl⟩
  rw [Sp.root_pairUp 4 (lv 4) (lv_length 4), hxy, Sp.root_pairUp 2 [x, y] (by simp), Sp.nodes_even [x, y] (by simp)]
  have hp : Sp.pairUp [x, y] = [Hs.node x y] := by simp [Sp.pairUp]
  rw [hp, Hs.root_one, show ([Hs.node x y] : List ByteArray) = [] ++ [Hs.node x y] from rfl, Sp.nodes_odd [] _ (by simp)]
  rw [show Sp.pairUp [] = [] by simp [Sp.pairUp], Sp.nodes_nil]
  rfl
end Go.Proofs.Ytoihdghoopgdfaa.F
end
section
/-
  The plain law of a span's bytes: numbers laid and taken, hashes laid and cut.
-/
namespace Go.Proofs.Ytoihdghoopgdfaa
open Go.RowKit Go.Proofs.YtoihdghoopgdfaaW.PrintWords Go.Proofs.YtoihdghoopgdfaaW.PrintLast Go.Proofs.YtoihdghoopgdfaaW.PrintMore
set_option linter.unusedVariables false
set_option linter.unusedSimpArgs false
namespace Cd
def put : Nat → Nat → List Int
  | 0, _ => []
  | f + 1, n => if n < 128 then [(n : Int)] else ((n % 128 + 128 : Nat) : Int) :: put f (n / 128)
def num (n : Nat) : List Int := put 9 n
theorem put_short (n : Nat) : ∀ f n, (put f n).length ≤ f
  | 0, _ => Nat.le_refl _
  | f + 1, n => by
    unfold put
    split
    · simp
    · have := put_short n f (n / 128)
      simp only [List.length_cons]; omega
def cat : List ByteArray → List Int
  | [] => []
  | x :: r => bytesOf x ++ cat r
theorem cat_length : ∀ l, Sp.sized l → (cat l).length = 32 * l.length
  | [], _ => rfl
  | x :: r, h => by
    rw [cat, List.length_append, bytesOf_length, h x (by simp), cat_length r (fun y hy => h y (by simp [hy])), List.length_cons]; omega
end Cd
namespace F
theorem or128 : ∀ b : Nat, b < 256 → Go.bits .or .u8 (b : Int) 128 = ((b % 128 + 128 : Nat) : Int) := by decide +kernel
theorem putNum_from (l0 : List Int) (hl0 : l0.length ≤ 1099511627776) : ∀ (f n : Nat) (x5 : List Int), n < 128 ^ f → 0 < f → x5.length + f ≤ 100 → Ev (fun k => code_PutNum.l0 k l0 (n : Int) x5) (l0 ++ (x5 ++ Cd.put f n))
  | 0, n, x5, hn, hf, hx => absurd hf (by omega)
  | f + 1, n, x5, hn, hf, hx => by
    by_cases hlt : n < 128
    · have e : Cd.put (f + 1) n = [(n : Int)] := by unfold Cd.put; rw [if_pos hlt]
      refine Ev.step (f := fun _ => some _) (fun k => ?_) (Ev.now _)
      simp only [code_PutNum.l0]
      rw [if_neg (by omega), if_pos (by omega), e, show (n : Int) % 256 = (n : Int) by omega]
      unfold code_laid_byte.f slices_Clone_byte_byte.f
      rw [if_pos (by omega), Option.bind_some, if_pos (by simp; omega), Option.bind_some]
    · have e : Cd.put (f + 1) n = ((n % 128 + 128 : Nat) : Int) :: Cd.put f (n / 128) := by rw [Cd.put, if_neg hlt]
      have hq : n / 128 < 128 ^ f := by rw [Nat.pow_succ] at hn; exact Nat.div_lt_of_lt_mul (by rw [Nat.mul_comm]; exact hn)
      have hf0 : 0 < f := by
        rcases Nat.eq_zero_or_pos f with h | h
        · subst h; simp at hq; omega
        · exact h
      have ih := putNum_from l0 hl0 f (n / 128) (x5 ++ [((n % 128 + 128 : Nat) : Int)]) hq hf0 (by simp; omega)
      rw [e]
      rw [List.append_assoc] at ih
      refine Ev.step (fun k => ?_) ih
      simp only [code_PutNum.l0]
      rw [if_pos (by omega), if_pos (by omega), show (n : Int) / 128 = ((n / 128 : Nat) : Int) by omega, show (n : Int) % 256 = ((n % 256 : Nat) : Int) by omega, or128 _ (by omega), show n % 256 % 128 = n % 128 by omega]
theorem putNum_ev (n : Nat) (hn : n ≤ 4611686018427387903) : Ev (fun k => code_PutNum.f k [] (n : Int)) (Cd.num n) := by
  have h := putNum_from [] (by simp) 9 n [] (by omega) (by omega) (by simp)
  have e : mn (mx (n : Int) 0) 4611686018427387903 = (n : Int) := by
    unfold mn mx
    (repeat' split) <;> omega
  refine Ev.congr (fun k => ?_) h
  show code_PutNum.l0 k [] (mn (mx (n : Int) 0) 4611686018427387903) [] = _
  rw [e]
theorem encode_from (l : List ByteArray) (hs : Sp.sized l) (hl : l.length ≤ 1000) (d : Nat) : ∀ (i : Nat) (x5 : List Int), i + d = l.length → x5.length ≤ 100 + 32 * i → Ev (fun k => span_Encode.l0 k x5 l (l.length : Int) (i : Int)) (x5 ++ Cd.cat (l.drop i), 0) := by
  induction d with
  | zero =>
    intro i x5 hi hx
    refine Ev.step (f := fun _ => some _) (fun k => ?_) (Ev.now _)
    simp only [span_Encode.l0]
    rw [if_neg (by omega), List.drop_eq_nil_of_le (by omega)]
    simp [Cd.cat]
  | succ d ih =>
    intro i x5 hi hx
    have hlt : i < l.length := by omega
    have h32 := Sp.sized_get hs i hlt
    have e : l.drop i = l.getD i ByteArray.empty :: l.drop (i + 1) := by
      rw [List.drop_eq_getElem_cons hlt, List.getD_eq_getElem?_getD, List.getElem?_eq_getElem hlt]; rfl
    have ih2 := ih (i + 1) (x5 ++ bytesOf (l.getD i ByteArray.empty)) (by omega) (by rw [List.length_append, bytesOf_length, h32]; omega)
    rw [List.append_assoc] at ih2
    rw [e]
    refine Ev.step (fun k => ?_) ih2
    simp only [span_Encode.l0]
    rw [if_pos (by omega), if_pos (by omega), if_pos (by omega), rdOf_nat', if_pos (by rw [h32]; omega), show wrap64 ((i : Int) + 1) = ((i + 1 : Nat) : Int) by unfold wrap64; omega]
theorem encode_ev (n : Nat) (l : List ByteArray) (hok : spanOk (n : Int) l = true) : Ev (fun k => span_Encode.f k (n : Int) l) (Cd.num n ++ Cd.cat l, 0) := by
  have h3 := (spanOk_iff (n : Int) l).1 hok
  have hs : Sp.sized l := Sp.sized_of h3.2.2.2
  have hl := spanOk_short hok
  have h1 := putNum_ev n (by omega)
  have h2 := encode_from l hs (by omega) l.length 0 (Cd.num n) (by omega) (by have := Cd.put_short n 9 n; unfold Cd.num; omega)
  rw [List.drop_zero] at h2
  refine Ev.congr (fun k => ?_) (Ev.bind (f := fun k t => span_Encode.l0 k t l (l.length : Int) ((0 : Nat) : Int)) h1 h2)
  show span_Encode.f k (n : Int) l = _
  unfold span_Encode.f span_Check.f
  rw [if_pos hok, Option.bind_some, if_pos rfl]
  rfl
end F
end Go.Proofs.Ytoihdghoopgdfaa
end
section
/-
  The plain law of a span's bytes, backwards: what is decoded is encoded again to the same bytes; one byte more is no span.
-/
namespace Go.Proofs.Ytoihdghoopgdfaa
open Go.RowKit Go.Proofs.YtoihdghoopgdfaaW.PrintWords Go.Proofs.YtoihdghoopgdfaaW.PrintLast Go.Proofs.YtoihdghoopgdfaaW.PrintMore
set_option linter.unusedVariables false
set_option linter.unusedSimpArgs false
namespace Cd
theorem dec_step (r : List Int) (h : 0 < r.length) : decOf r = strOfNums (r.take 32) :: decOf (r.drop 32) := by
  unfold decOf decTexts
  rw [List.length_drop, show (r.length + 31) / 32 = (r.length - 32 + 31) / 32 + 1 by omega, List.range_succ_eq_map, List.map_cons, List.map_map]
  congr 1
  apply List.map_congr_left
  intro j _
  show decOne r (j + 1) = decOne (r.drop 32) j
  unfold decOne
  rw [List.drop_drop, show 32 * (j + 1) = 32 + 32 * j by omega]
theorem bytes_str (r : List Int) (hb : ∀ x ∈ r, 0 ≤ x ∧ x < 256) : bytesOf (strOfNums r) = r := by
  unfold strOfNums bytesOf
  rw [List.map_map]
  conv => rhs; rw [← List.map_id r]
  apply List.map_congr_left
  intro x hx
  have := hb x hx
  simp only [Function.comp, id]
  rw [UInt8.toNat_ofNat']
  omega
theorem cat_dec (N : Nat) : ∀ r : List Int, r.length ≤ N → (∀ x ∈ r, 0 ≤ x ∧ x < 256) → Sp.sized (decOf r) → cat (decOf r) = r := by
  induction N with
  | zero =>
    intro r h _ _
    obtain rfl : r = [] := List.eq_nil_of_length_eq_zero (by omega)
    rfl
  | succ N ih =>
    intro r h hb hs
    rcases Nat.eq_zero_or_pos r.length with h0 | h0
    · obtain rfl : r = [] := List.eq_nil_of_length_eq_zero h0
      rfl
    · rw [dec_step r h0] at hs ⊢
      have h1 := hs _ (List.mem_cons_self ..)
      rw [strOfNums_size, List.length_take] at h1
      rw [cat, bytes_str _ (fun x hx => hb x (List.mem_of_mem_take hx)), ih (r.drop 32) (by rw [List.length_drop]; omega) (fun x hx => hb x (List.mem_of_mem_drop hx)) (fun x hx => hs x (List.mem_cons_of_mem _ hx)), List.take_append_drop]
end Cd
end Go.Proofs.Ytoihdghoopgdfaa
end
