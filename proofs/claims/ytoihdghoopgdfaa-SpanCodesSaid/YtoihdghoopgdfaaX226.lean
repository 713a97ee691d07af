-- JOINED BY A PROGRAM OF THIS PLACE (wip/tools/pack.py) out of: Decode
import Derived.Shelf.RegionOpen
import Derived.Shelf.Abstract
import Derived.Test.YtoihdghoopgdfaaX216
import Derived.Test.YtoihdghoopgdfaaX217
import Derived.Test.YtoihdghoopgdfaaX222
import Derived.Test.YtoihdghoopgdfaaX224
section
/-
  span.Decode: its walk and its contract.
-/
namespace Go.Proofs.Ytoihdghoopgdfaa
open Go.RowKit Go.Proofs.YtoihdghoopgdfaaW.PrintWords Go.Proofs.YtoihdghoopgdfaaW.PrintLast Go.Proofs.YtoihdghoopgdfaaW.PrintMore Go.Proofs.YtoihdghoopgdfaaR
set_option linter.unusedVariables false
set_option linter.unusedSimpArgs false
attribute [local go_sem] Oper.semAt_some
def decOne (l : List Int) (j : Nat) : ByteArray := strOfNums ((l.drop (32 * j)).take 32)
def decTexts (l : List Int) (k : Nat) : List ByteArray := (List.range k).map (decOne l)
def decOf (l : List Int) : List ByteArray := decTexts l ((l.length + 31) / 32)
theorem decTexts_succ (l : List Int) (k : Nat) : decTexts l (k + 1) = decTexts l k ++ [decOne l k] := by simp [decTexts, List.range_succ]
theorem decTexts_length (l : List Int) (k : Nat) : (decTexts l k).length = k := by simp [decTexts]
def spDecode (l : List Int) : Int × List ByteArray × Int := if (tkNum l).2.2 = 0 ∧ spanOk (tkNum l).1 (decOf (tkNum l).2.1) = true then ((tkNum l).1, decOf (tkNum l).2.1, 0) else (0, [], 2)
def span_Decode.f (l : List Int) : Option (Int × List ByteArray × Int) := if (∀ x ∈ l, 0 ≤ x ∧ x < 256) ∧ l.length ≤ 140737488355328 then some (spDecode l) else none
section
variable {ops : Array Oper} {rest : List Oper} {o : Oper} {a : Act} {Q : Exit → Act → World → Prop} {F : Fence} {n : Nat}
theorem appT_in {w0 W : World} (base : Nat) (hgd : o.guard = none) (s x : Operand)
    (ho : o.op = .call { callee := .builtin .append, args := #[s, x], argTypes := #[22, 22] })
    (v : Value) (xs : List ByteArray) (p : ByteArray) (hs : a.eval s = v) (hx : a.eval x = .slice (some ⟨W.heap.size, 0, none⟩) 1 1)
    (HO : OwnT W base v xs) (HB : Below base w0 W) (hbase : base ≤ W.heap.size) (hl : (xs.length + 1) * 16 ≤ 140737488355328)
    (h : ∀ v1 w1, OwnT w1 base v1 (xs ++ [p]) → Below base w0 w1 → W.grownBy w1 v.ownBlock → wpListIn F n Try.prog ops Q rest (a.put o.dst v1) w1) :
    wpListIn F n Try.prog ops Q (o :: rest) a (W.alloc (.cells #[.string p] 9)) := by
  obtain ⟨i0, hi, hzz⟩ := Option.map_eq_some_iff.1 infoT
  simp only [Prod.mk.injEq] at hzz
  obtain ⟨hz0, hz1, hz2⟩ := hzz
  have HOW := Kd.own_of_R HO
  refine wpListIn_append_own (W.alloc (.cells #[.string p] 9)) hgd s x 22 ho base 9 i0 (.string ByteArray.empty) 1 16 Try.underlying22 hi hz0 hz1 hz2 rfl (by decide) v xs.length _ hs (HOW.alloc _) ⟨W.heap.size, 0, none⟩ 1 1 [.string p] hx rfl
    (World.news_of_block (cs := #[.string p]) (t := 9) (fr := (0, 0)) (heap_alloc_new W (.cells #[.string p] 9))) (by simp [Value.oneCell']) (by simp only [maxLen]; omega) (by omega) (by simp; omega) ?_
  intro v1 w1 hown hg _
  exact h v1 w1 (Kd.R_of_own (by simpa [encs] using hown) (fun _ _ => trivial)) ((HB.alloc hbase _).grown hg (by simp; omega) (own_base HOW)) (World.grownBy.trans (World.grownBy_alloc W _ _) hg)
end
theorem ownT_put {W : World} {base l_ : Nat} {o o' : Obj} {v : Value} {xs : List ByteArray} (h : OwnT W base v xs) (hl : W.heap[l_]? = some o) (ho : o.isCells = false) : OwnT (W.putObj l_ o') base v xs :=
  Kd.R_grown2 h rfl (grownBy_putObj' W l_ o') (fun k e he => by
    cases e
    obtain ⟨inner, hw⟩ := Kd.R_own h
    rcases hw.2 with ⟨rfl, _⟩ | ⟨g, cap, cur, rfl, _, hh, _⟩
    · simp [Value.ownBlock] at he
    · have : l_ = g := by simpa [Value.ownBlock] using he
      subst this
      rw [hl] at hh
      cases hh
      cases ho)
structure DecV (w2 : World) (bs : Nat) (n : Int) (A : Option Addr) (m c : Nat) (rest : List Int) (k : Nat) (v : Value) (W : World) : Prop where
  bel : Below w2.heap.size w2 W
  g : W.heap[w2.heap.size]? = some (.cells #[.int .i64 n, v] 26 (0, 0))
  own : OwnT W w2.heap.size v (decTexts rest k)
  st : ChunkSt bs A m c W
namespace DecV
variable {w2 : World} {bs : Nat} {n : Int} {A : Option Addr} {m c : Nat} {rest : List Int} {k : Nat} {v : Value} {W : World}
theorem put {l_ : Nat} {o o' : Obj} (hi : DecV w2 bs n A m c rest k v W) (hn : w2.heap.size ≤ l_) (hl : W.heap[l_]? = some o) (ho : o.isCells = false) : DecV w2 bs n A m c rest k v (W.putObj l_ o') :=
  ⟨put_below hi.bel hn hl, put_cells hl ho hi.g, ownT_put hi.own hl ho, put_cells hl ho hi.st.cs, put_cells hl ho hi.st.cn⟩
theorem alloc (hi : DecV w2 bs n A m c rest k v W) (o : Obj) : DecV w2 bs n A m c rest k v (W.alloc o) :=
  have lt : ∀ {b : Nat} {o' : Obj}, W.heap[b]? = some o' → (W.alloc o).heap[b]? = some o' := fun hb => (Below.heap_alloc W o _ (Array.getElem?_eq_some_iff.1 hb).1).trans hb
  ⟨hi.bel.alloc hi.bel.size _, lt hi.g, ownT_below hi.own ((Below.refl _ _).alloc (Nat.le_refl _) _), lt hi.st.cs, lt hi.st.cn⟩
theorem drew (hi : DecV w2 bs n A m c rest k v W) : DecV w2 bs n A m c rest k v W.drew :=
  ⟨below_drew hi.bel, hi.g, ownT_below hi.own (below_drew1 (Below.refl _ _)), hi.st.cs, hi.st.cn⟩
end DecV
theorem c_none {α : Type} {d : Kd α} {w : World} {n : Nat} {xs : List α} (h : d.C w none n xs) : n = 0 := by
  rcases Nat.eq_zero_or_pos n with e | e
  · exact e
  · obtain ⟨_, e, _⟩ := h.2.2 e
    cases e
theorem keeps_grown {W w1 : World} {base : Nat} {v : Value} {xs : List ByteArray} (HO : OwnT W base v xs) (hg : W.grownBy w1 v.ownBlock) : KeepsOthers W w1 := by
  refine ⟨hg.size, fun k o hk hnc => (hg.block k (Array.getElem?_eq_some_iff.1 hk).1 (fun he => ?_)).trans hk⟩
  obtain ⟨inner, hw⟩ := Kd.R_own HO
  rcases hw.2 with ⟨rfl, _⟩ | ⟨g, cap, cur, rfl, _, hh, _⟩
  · simp [Value.ownBlock] at he
  · have : k = g := by simpa [Value.ownBlock] using he
    subst this
    rw [hk] at hh
    cases hh
    cases hnc
theorem chunk_reads {W : World} {ad : Addr} {rest : List Int} {c k : Nat} (h : Kd.C (Kd.int .u8) W (some ad) rest.length rest) (hc : rest.length ≤ c) (hk : 32 * k < rest.length) :
    Kd.C (Kd.int .u8) W (some (ad.add (32 * k))) (chunkLen rest.length k) ((rest.drop (32 * k)).take 32) := by
  have hle : 32 * k + chunkLen rest.length k ≤ rest.length := by unfold chunkLen; split <;> omega
  have := Kd.C_mid h (lo := 32 * k) (hi := 32 * k + chunkLen rest.length k) (by omega) hle hc
  rw [if_neg (by omega), show (Kd.int .u8).sz = 1 from rfl, Nat.mul_one, List.drop_take, Nat.add_sub_cancel_left] at this
  have e : (rest.drop (32 * k)).take (chunkLen rest.length k) = (rest.drop (32 * k)).take 32 := by
    unfold chunkLen
    split
    · rw [List.take_of_length_le (by simp), List.take_of_length_le (by simp; omega)]
    · rfl
  have e2 : ((rest.drop (32 * k)).take (chunkLen rest.length k)).length = chunkLen rest.length k := by rw [List.length_take, List.length_drop]; omega
  rw [e2, e] at this
  exact this
set_option maxHeartbeats 8000000 in
set_option maxRecDepth 100000 in
theorem decode_walk (A : Option Addr) (c : Nat) (l : List Int) (w : World) (hr : Kd.C (Kd.int .u8) w A l.length l) (hc : l.length ≤ c) (hby : ∀ x ∈ l, 0 ≤ x ∧ x < 256) (hl : l.length ≤ 140737488355328) :
    Calls Try.prog 23 #[.slice A l.length c] w fun e w' => ∃ v1_ : Value, e = .returned (.tuple #[.agg #[.int .i64 (spDecode l).1, v1_], .int .i64 (spDecode l).2.2]) ∧ Kd.R Kd.string 9 w' w.heap.size (fun _ => True) v1_ (spDecode l).2.1 ∧ Below w.heap.size w w' := by
  have HR := Lib.hid hr
  have HL := Lib.hid hl
  have HC := Lib.hid hc
  have HBY := Lib.hid hby
  obtain ⟨n, hn⟩ : ∃ n, n = (tkNum l).1 := ⟨_, rfl⟩
  obtain ⟨rest, hrest⟩ : ∃ r, r = (tkNum l).2.1 := ⟨_, rfl⟩
  obtain ⟨e0, he0⟩ : ∃ e, e = (tkNum l).2.2 := ⟨_, rfl⟩
  have HTK := Lib.hid (show code_TakeNum.f l = some (n, rest, e0) by rw [hn, hrest, he0]; exact if_pos ⟨hby, hl⟩)
  have hrl : rest.length ≤ 140737488355328 := by
    rw [hrest]; unfold tkNum; split
    · simp
    · simp only [List.length_drop]; omega
  have HSD : Hid (spDecode l = if e0 = 0 ∧ spanOk n (decOf rest) = true then (n, decOf rest, 0) else (0, [], 2)) := Lib.hid (by rw [spDecode, ← hn, ← hrest, ← he0])
  obtain ⟨nl, hnl⟩ : ∃ nl, nl = l.length := ⟨_, rfl⟩
  have HNL := Lib.hid hnl
  rw [← hnl]
  clear hr hl hc hby hn hrest he0 hnl
  refine (callsIn_wide (n := 3)).1 ?_
  refine callsIn_of_wp_marks Try.func23 rfl trivial ?_ rfl
  simp only [Try.ntmps23, List.size_toArray, List.length_cons, List.length_nil, Nat.reduceAdd, Nat.reduceSub, Array.replicate_succ, Array.replicate_zero, List.push_toArray, List.append_toArray, List.nil_append, List.cons_append]
  gi_wp2_with (first | (gi_at_call 42; fail) | gi_in)
  refine ⟨trivial, ?_⟩
  have hTK := code_TakeNum.calls A c l n rest e0 (w.alloc (.cells #[.int .i64 0, .slice none 0 0] 26)) (Kd.C_alloc HR.out _) HC.out HTK.out
  rw [← HNL.out] at hTK
  refine (callsIn_wide.2 hTK).mono ?_
  rintro e w2 ⟨v2, rfl, ho, hb⟩
  obtain ⟨Ar, cr, rfl⟩ := Kd.R_slice ho
  have hG := (hb.block w.heap.size (by simp)).trans (blk_new w _)
  have hB := below_then ((Below.refl w.heap.size w).alloc (Nat.le_refl _) _) (by simp) hb
  have HG := Lib.hid hG
  have HB := Lib.hid hB
  have HRR := Lib.hid (Kd.R_reads' ho)
  have hw2 : w.heap.size < w2.heap.size := blk_lt hG
  obtain ⟨m, hm⟩ : ∃ m, m = rest.length := ⟨_, rfl⟩
  have HM := Lib.hid hm
  rw [← hm]
  rw [← hm] at hrl
  clear hb ho hG hB hTK hm
  gi_wp2_with (first | (gi_at_call 43; fail) | gi_in)
  refine ⟨trivial, ?_⟩
  have hs1 : (w2.alloc (.cells #[.int .i64 n, .slice none 0 0] 26)).heap.size = w2.heap.size + 1 := by simp
  have hCH := chunk_calls Ar m cr (w2.alloc (.cells #[.int .i64 n, .slice none 0 0] 26))
  rw [hs1] at hCH
  refine (callsIn_wide.2 hCH).mono ?_
  rintro e W0 ⟨rfl, hst, hb0, hz⟩
  have h0 : DecV w2 (w2.heap.size + 1) n Ar m cr rest 0 (.slice none 0 0) W0 := ⟨below_then ((Below.refl w2.heap.size w2).alloc (Nat.le_refl _) _) (by simp) (by rw [hs1]; exact hb0), (hb0.block _ (by omega)).trans (blk_new w2 _), Kd.R_nil _ _ _ _ _, hst⟩
  have H0 := Lib.hid h0
  have HGG := Lib.hid ((h0.bel.block _ hw2).trans HG.out)
  clear hst hb0 hCH h0
  gi_wp2
  refine wpIn_rangeFunc_simD (gf := 56) (lb := #[.pointer (some ⟨w2.heap.size + 1, 0, none⟩), .pointer (some ⟨w2.heap.size + 1 + 1, 0, none⟩)]) rfl (enters_of Try.func56 (by kernel_rfl) rfl) (chunkEnc Ar m) ((m + 31) / 32) (fun _ => rfl)
    (fun _ => ChunkSt (w2.heap.size + 1) Ar m cr) (fun _ W => W) (chunk1_sim (w2.heap.size + 1) Ar m cr (fun e => by have := HRR.out.2.2; rw [e] at this; rw [HM.out]; exact c_none this) (by rw [HM.out]; exact HRR.out.2.1) hrl) (fun _ _ _ _ => rfl)
    (fun k W => ∃ v, DecV w2 (w2.heap.size + 1) n Ar m cr rest k v W) (fun k W => ∃ v, DecV w2 (w2.heap.size + 1) n Ar m cr rest k v W) (fun _ => False)
    (fun k W l_ o o' hi hl hw ho => hi.imp fun _ h => h.put (by omega) hw ho) (fun k W l_ o o' hi hl hw ho => hi.imp fun _ h => h.put (by omega) hw ho) (fun _ _ _ _ h _ _ _ => h)
    (fun k W hk hi => ⟨hi.elim fun _ h => h.st, hi⟩)
    (fun k W hi => hi.elim fun _ h => h.st) (fun k W hi => hi.imp fun _ h => h.drew) (fun r => ⟨_, (H0.out.alloc _).alloc _⟩)
    (fun k => { tmps := #[.slice A nl c, undef, .pointer (some ⟨w.heap.size, 0, none⟩), .int .i64 0, .int .i64 n, .slice Ar m cr, .int .i64 e0, .pointer (some ⟨w2.heap.size, 0, none⟩), .slice (Ar.map (·.add (32 * k))) (chunkLen m k) (chunkLen m k), .tuple #[.int .i64 n, .slice Ar m cr, .int .i64 e0], .slice A nl c, .tuple #[.int .i64 n, .slice Ar m cr, .int .i64 e0], .int .i64 n, .slice Ar m cr, .int .i64 e0, .int .i64 n, .agg #[.int .i64 n, .slice none 0 0], .slice Ar m cr, .func (.func 56) #[] #[.pointer (some ⟨w2.heap.size + 1, 0, none⟩), .pointer (some ⟨w2.heap.size + 1 + 1, 0, none⟩)], .slice (Ar.map (·.add (32 * k))) (chunkLen m k) (chunkLen m k), undef, undef, undef, undef, undef, undef, undef, undef, undef, undef, undef, undef, undef, undef, undef, undef], defers := [] }) ?assign ?body ?done ?stop
  case assign =>
    intro l_ k W K hK
    have he : chunkEnc Ar m k = #[.slice (Ar.map (·.add (32 * k))) (chunkLen m k) (chunkLen m k)] := rfl
    rw [he]
    clear he
    gi_wp2
    exact hK
  case body =>
    intro l_ k W hi hk
    obtain ⟨v, hi⟩ := hi
    obtain ⟨ad, rfl⟩ : ∃ ad, Ar = some ad := by cases Ar with
      | none => have := c_none HRR.out.2.2; have := HM.out; omega
      | some ad => exact ⟨ad, rfl⟩
    have hrd := chunk_reads (k := k) (Kd.C_below HRR.out.2.2 hi.bel) HRR.out.2.1 (by have := HM.out; omega)
    rw [← HM.out] at hrd
    have hcv := Kd.C_string (P := Try.prog) (src := 42) (dst := 9) (c := chunkLen m k) Try.underlying42 Try.underlying5 Try.underlying9 hrd
    have hun : strOfNums ((rest.drop (32 * k)).take 32) = decOne rest k := rfl
    rw [hun] at hcv
    have HS := Lib.hid (decTexts_succ rest k)
    have HL2 := Lib.hid (decTexts_length rest k)
    generalize decOne rest k = p at *
    generalize chunkLen m k = q at *
    rw [Option.map_some]
    generalize ad.add (32 * k) = ad2 at *
    have HI := Lib.hid hi
    have cg := blk_cell hi.g
    have c1 : W.cell? ⟨w2.heap.size, 1, none⟩ = some v := by rw [cg]; rfl
    clear hrd hun hi cg
    have hsz : (k + 1) * 16 ≤ 140737488355328 := by omega
    gi_wp2_with (gi_at_builtin; refine appT_in (w0 := w2) w2.heap.size rfl (.tmp 21) (.tmp 24) rfl v (decTexts rest k) p rfl rfl HI.out.own HI.out.bel HI.out.bel.size (by rw [HL2.out]; exact hsz) ?_; intro v1 w1 ho1 hb1 hg1; obtain ⟨A1, e1, rfl⟩ := Kd.R_slice ho1; have hlen1 : (decTexts rest k ++ [p]).length = k + 1 := (by rw [List.length_append, HL2.out]; rfl); rw [hlen1] at ho1 ⊢; have G1 := Lib.hid (blk_grown HI.out.g hg1 (Kd.R_ne HI.out.own HI.out.g (by decide))); have S1 := Lib.hid (ChunkSt.mk (bs := w2.heap.size + 1) (blk_grown HI.out.st.cs hg1 (Kd.R_ne HI.out.own HI.out.st.cs (by decide))) (blk_grown HI.out.st.cn hg1 (Kd.R_ne HI.out.own HI.out.st.cn (by decide)))); have KO := Lib.hid (keeps_grown HI.out.own hg1); have O1 := Lib.hid ho1; have B1 := Lib.hid hb1; have f1 := blk_frozen G1.out 1; have d1 : w1.cell? ⟨w2.heap.size, 1, none⟩ = some v := (by rw [blk_cell G1.out]; rfl); clear ho1 hb1 hg1)
    refine ⟨KO.out.trans (KeepsOthers.setCell w1 ⟨w2.heap.size, 1, none⟩ _), _, below_setCell B1.out (Nat.le_refl _) _ _, blk_set G1.out 1 _, by rw [HS.out]; exact ownT_set O1.out G1.out (by decide) _ _, ?_, ?_⟩
    · exact (Below.heap_setCell w1 ⟨w2.heap.size, 1, none⟩ _ _ (by show w2.heap.size + 1 ≠ w2.heap.size; omega)).trans S1.out.cs
    · exact (Below.heap_setCell w1 ⟨w2.heap.size, 1, none⟩ _ _ (by show w2.heap.size + 1 + 1 ≠ w2.heap.size; omega)).trans S1.out.cn
  case done =>
    intro W hi hD
    obtain ⟨v, hi⟩ := hi
    have hz9 : w2.heap.size < W0.heap.size := by omega
    clear hz hs1
    obtain ⟨As, cs, rfl⟩ := Kd.R_slice hi.own
    have HI := Lib.hid hi
    have HD := Lib.hid hD
    have hN : decTexts rest ((m + 31) / 32) = decOf rest := by rw [decOf, HM.out]
    obtain ⟨N, hNN⟩ : ∃ N, N = decOf rest := ⟨_, rfl⟩
    have hg := hi.g
    have ho := hi.own
    rw [hN, ← hNN] at hg ho
    have HGI := Lib.hid hg
    have HOI := Lib.hid ho
    clear hg ho
    have c0_ : W.cell? ⟨w2.heap.size, 0, none⟩ = some (.int .i64 n) := by rw [blk_cell hi.g]; rfl
    have c1_ : W.cell? ⟨w2.heap.size, 1, none⟩ = some (.slice As (decTexts rest ((m + 31) / 32)).length cs) := by rw [blk_cell hi.g]; rfl
    rw [hN, ← hNN] at c1_
    have HSD2 := HSD.out
    rw [← hNN] at HSD2
    have HSD := Lib.hid HSD2
    have HNN := Lib.hid hNN
    have HGW := Lib.hid ((hi.bel.block _ hw2).trans HG.out)
    have r0 : W.cell? ⟨w.heap.size, 0, none⟩ = some (.int .i64 0) := by rw [blk_cell HGW.out]; rfl
    have r1 : W.cell? ⟨w.heap.size, 1, none⟩ = some (.slice none 0 0) := by rw [blk_cell HGW.out]; rfl
    have r2 := blk_frozen HGW.out 0
    have r3 := blk_frozen HGW.out 1
    clear hi hD hN HSD2 hNN
    have HBW := Lib.hid (below_then HB.out HB.out.size HI.out.bel)
    by_cases he : e0 = 0
    · have t1 : (e0 != 0) = false := by simp [he]
      have HE := Lib.hid he
      clear he
      gi_wp2_with (first | (gi_at_call 16; fail) | gi_in)
      refine ⟨trivial, ?_⟩
      by_cases hok : spanOk n N = true
      · have hsd : spDecode l = (n, N, 0) := by rw [HSD.out, if_pos ⟨HE.out, hok⟩]
        have hck : span_Check.f n N = some 0 := congrArg some (if_pos hok)
        refine (callsIn_wide.2 (span_Check.calls n As cs N 0 W (Kd.R_reads' HOI.out).2.2 (Kd.R_reads' HOI.out).2.1 hck)).mono ?_
        rintro e W5 ⟨rfl, hb5⟩
        have HG5 := Lib.hid ((hb5.block _ (blk_lt HGW.out)).trans HGW.out)
        have HI5 := Lib.hid ((hb5.block _ (blk_lt HGI.out)).trans HGI.out)
        have HD5 := Lib.hid ((hb5.block _ (blk_lt HD.out)).trans HD.out)
        have HO5 := Lib.hid (ownT_below HOI.out hb5)
        have HB5 := Lib.hid (below_then HBW.out HBW.out.size hb5)
        have q0 : W5.cell? ⟨w2.heap.size, 0, none⟩ = some (.int .i64 n) := by rw [blk_cell HI5.out]; rfl
        have q1 : W5.cell? ⟨w2.heap.size, 1, none⟩ = some (.slice As N.length cs) := by rw [blk_cell HI5.out]; rfl
        have q2 : W5.cell? ⟨w.heap.size, 0, none⟩ = some (.int .i64 0) := by rw [blk_cell HG5.out]; rfl
        have q3 : W5.cell? ⟨w.heap.size, 1, none⟩ = some (.slice none 0 0) := by rw [blk_cell HG5.out]; rfl
        have q4 := blk_frozen HG5.out 0
        have q5 := blk_frozen HG5.out 1
        clear hb5 hck hok c0_ c1_ r0 r1 r2 r3
        gi_wp2
        have hD2 : ((W5.setCell ⟨w.heap.size, 0, none⟩ (.int .i64 n)).setCell ⟨w.heap.size, 1, none⟩ (.slice As N.length cs)).heap[W0.heap.size]? = some (.deferred (some [])) := by
          rw [heap_setCell_other _ _ _ _ (by show W0.heap.size ≠ w.heap.size; omega), heap_setCell_other _ _ _ _ (by show W0.heap.size ≠ w.heap.size; omega)]
          exact HD5.out
        refine ⟨by simp, .inl ⟨_, _, rfl, run_takeDeferred hD2, ?_⟩⟩
        refine ⟨_, results_span 2 3 rfl w.heap.size (.int .i64 n) (.slice As N.length cs) rfl (put_cells hD2 rfl (set_two HG5.out _ _)), ?_⟩
        rw [hsd]
        refine ⟨_, rfl, ?_, put_below (below_setCell (below_setCell HB5.out (Nat.le_refl _) _ _) (Nat.le_refl _) _ _) (by omega) hD2⟩
        exact ownT_put (ownT_set (ownT_set (Kd.R_lower HO5.out (show w.heap.size ≤ w2.heap.size by omega)) HG5.out (by decide) _ _) (blk_set HG5.out _ _) (by decide) _ _) hD2 rfl
      · have hsd : spDecode l = (0, [], 2) := by rw [HSD.out, if_neg (fun h => hok h.2)]
        have hck : span_Check.f n N = some 1 := congrArg some (if_neg hok)
        refine (callsIn_wide.2 (span_Check.calls n As cs N 1 W (Kd.R_reads' HOI.out).2.2 (Kd.R_reads' HOI.out).2.1 hck)).mono ?_
        rintro e W5 ⟨rfl, hb5⟩
        have HG5 := Lib.hid ((hb5.block _ (blk_lt HGW.out)).trans HGW.out)
        have HD5 := Lib.hid ((hb5.block _ (blk_lt HD.out)).trans HD.out)
        have HB5 := Lib.hid (below_then HBW.out HBW.out.size hb5)
        have q2 : W5.cell? ⟨w.heap.size, 0, none⟩ = some (.int .i64 0) := by rw [blk_cell HG5.out]; rfl
        have q3 : W5.cell? ⟨w.heap.size, 1, none⟩ = some (.slice none 0 0) := by rw [blk_cell HG5.out]; rfl
        have q4 := blk_frozen HG5.out 0
        have q5 := blk_frozen HG5.out 1
        clear hb5 hck hok c0_ c1_ r0 r1 r2 r3
        gi_wp2
        have hD2 : ((W5.setCell ⟨w.heap.size, 0, none⟩ (.int .i64 0)).setCell ⟨w.heap.size, 1, none⟩ (.slice none 0 0)).heap[W0.heap.size]? = some (.deferred (some [])) := by
          rw [heap_setCell_other _ _ _ _ (by show W0.heap.size ≠ w.heap.size; omega), heap_setCell_other _ _ _ _ (by show W0.heap.size ≠ w.heap.size; omega)]
          exact HD5.out
        refine ⟨by simp, .inl ⟨_, _, rfl, run_takeDeferred hD2, ?_⟩⟩
        refine ⟨_, results_span 2 3 rfl w.heap.size (.int .i64 0) (.slice none 0 0) rfl (put_cells hD2 rfl (set_two HG5.out _ _)), ?_⟩
        rw [hsd]
        refine ⟨_, rfl, ?_, put_below (below_setCell (below_setCell HB5.out (Nat.le_refl _) _ _) (Nat.le_refl _) _ _) (by omega) hD2⟩
        exact Kd.R_nil _ _ _ _ _
    · have t1 : (e0 != 0) = true := by simp [he]
      have hsd : spDecode l = (0, [], 2) := by rw [HSD.out, if_neg (fun h => he h.1)]
      clear he
      gi_wp2
      refine ⟨trivial, ?_⟩
      gi_wp2
      have hD2 : ((W.setCell ⟨w.heap.size, 0, none⟩ (.int .i64 0)).setCell ⟨w.heap.size, 1, none⟩ (.slice none 0 0)).heap[W0.heap.size]? = some (.deferred (some [])) := by
        rw [heap_setCell_other _ _ _ _ (by show W0.heap.size ≠ w.heap.size; omega), heap_setCell_other _ _ _ _ (by show W0.heap.size ≠ w.heap.size; omega)]
        exact HD.out
      refine ⟨by simp, .inl ⟨_, _, rfl, run_takeDeferred hD2, ?_⟩⟩
      refine ⟨_, results_span 2 3 rfl w.heap.size (.int .i64 0) (.slice none 0 0) rfl (put_cells hD2 rfl (set_two HGW.out _ _)), ?_⟩
      rw [hsd]
      refine ⟨_, rfl, ?_, put_below (below_setCell (below_setCell HBW.out (Nat.le_refl _) _ _) (Nat.le_refl _) _ _) (by omega) hD2⟩
      exact Kd.R_nil _ _ _ _ _
  case stop =>
    intro W h
    exact h.elim
theorem span_Decode.calls (A0 : Option Addr) (c0 : Nat) (l0 : List Int) (r1 : Int) (r2 : List ByteArray) (r3 : Int) (w : World) (hr0 : Kd.C (Kd.int .u8) w A0 l0.length l0) (hc0 : l0.length ≤ c0) (h : span_Decode.f l0 = some (r1, r2, r3)) :
    Calls Try.prog 23 #[.slice A0 l0.length c0] w fun e w' => ∃ v1_ : Value, e = .returned (.tuple #[.agg #[.int .i64 r1, v1_], .int .i64 r3]) ∧ Kd.R Kd.string 9 w' w.heap.size (fun _ => True) v1_ r2 ∧ Below w.heap.size w w' := by
  unfold span_Decode.f at h
  split at h
  case isFalse => cases h
  rename_i hok
  have h2 := Option.some.inj h
  have := decode_walk A0 c0 l0 w hr0 hc0 hok.1 hok.2
  rw [h2] at this
  exact this
end Go.Proofs.Ytoihdghoopgdfaa
end
