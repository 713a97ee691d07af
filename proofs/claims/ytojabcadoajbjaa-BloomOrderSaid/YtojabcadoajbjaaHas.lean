/-
  bloom.Has: what it answers is what the plain text hasB does.
-/
import Derived.Test.YtojabcadoajbjaaPlaceFacts
import Derived.Shelf.RegionOpen
import Derived.Shelf.Abstract
namespace Go.Proofs.Ytojabcadoajbjaa
open Go.RowKit Go.Proofs.YtojabcadoajbjaaW.PrintWords Go.Proofs.YtojabcadoajbjaaW.PrintLast Go.Proofs.YtojabcadoajbjaaW.PrintMore Go.Proofs.YtojabcadoajbjaaR
set_option linter.unusedVariables false
set_option linter.unusedSimpArgs false
attribute [local go_sem] Oper.semAt_some

def miss (f : List Int) (p : Int) : Bool := Go.bits .and .u8 (rd f (Int.tdiv p 8)) (mask p) == 0

/-- How things stand in a round: k the walk's place, m how many places have been asked. -/
structure HasI (w : World) (A0 : Option Addr) (c0 : Nat) (f : List Int) (bh bb bs : Nat) (h s bits : Int) (k m : Nat) (W : World) : Prop where
  bel : Below w.heap.size w W
  st : PlSt bh bb bs h s bits k W
  cf : W.heap[w.heap.size]? = some (.cells #[.slice A0 f.length c0] 25 (0, 0))
  cr : W.heap[w.heap.size + 1]? = some (.cells #[.bool false] 4 (0, 0))
  no : ∀ j, j < m → miss f (place h s bits j) = false
theorem HasI.put {w : World} {A0 : Option Addr} {c0 : Nat} {f : List Int} {bh bb bs : Nat} {h s bits : Int} {k m : Nat} {W : World} {l : Nat} {o o' : Obj} (hi : HasI w A0 c0 f bh bb bs h s bits k m W) (hn : w.heap.size ≤ l) (hl : W.heap[l]? = some o) (ho : o.isCells = false) : HasI w A0 c0 f bh bb bs h s bits k m (W.putObj l o') :=
  ⟨put_below hi.bel hn hl, hi.st.put hl ho, put_cells hl ho hi.cf, put_cells hl ho hi.cr, hi.no⟩
theorem HasI.adv {w : World} {A0 : Option Addr} {c0 : Nat} {f : List Int} {bh bb bs : Nat} {h s bits : Int} {k m : Nat} {W : World} (hi : HasI w A0 c0 f bh bb bs h s bits k m W) (hg : w.heap.size + 2 ≤ bh) (n1 : bh ≠ bb) (n2 : bh ≠ bs) : HasI w A0 c0 f bh bb bs h s bits (k + 1) m (plAdv bh h s k W) :=
  ⟨hi.bel.setCell (p := ⟨bh, 0, none⟩) (by show w.heap.size ≤ bh; omega) _, hi.st.adv n1 n2, (Below.heap_setCell W ⟨bh, 0, none⟩ _ _ (by show w.heap.size ≠ bh; omega)).trans hi.cf, (Below.heap_setCell W ⟨bh, 0, none⟩ _ _ (by show w.heap.size + 1 ≠ bh; omega)).trans hi.cr, hi.no⟩
theorem HasI.alloc {w : World} {A0 : Option Addr} {c0 : Nat} {f : List Int} {bh bb bs : Nat} {h s bits : Int} {k m : Nat} {W : World} (hi : HasI w A0 c0 f bh bb bs h s bits k m W) (o : Obj) : HasI w A0 c0 f bh bb bs h s bits k m (W.alloc o) :=
  have lt : ∀ {b : Nat} {o' : Obj}, W.heap[b]? = some o' → (W.alloc o).heap[b]? = some o' := fun hb => (Below.heap_alloc W o _ (Array.getElem?_eq_some_iff.1 hb).1).trans hb
  ⟨hi.bel.alloc hi.bel.size _, ⟨lt hi.st.ch, lt hi.st.cb, lt hi.st.cs⟩, lt hi.cf, lt hi.cr, hi.no⟩

set_option maxRecDepth 100000 in
set_option maxHeartbeats 8000000 in
theorem has_walk (k1 k2 : Nat) (A0 : Option Addr) (c0 : Nat) (f : List Int) (A1 : Option Addr) (c1 : Nat) (key : List Int) (h s : Int) (w : World) (hr0 : Kd.C (Kd.int .u8) w A0 f.length f) (hc0 : f.length ≤ c0) (hr1 : Kd.C (Kd.int .u8) w A1 key.length key) (hc1 : key.length ≤ c1)
    (hf0 : 0 < f.length) (hf : f.length ≤ 281474976710656) (hl : key.length ≤ 140737488355000) (h1 : F.code_Crc.f k1 key = some h) (h2 : F.code_Crc.f k2 (key ++ [1]) = some s) (hh : 0 ≤ h ∧ h < 4294967296) (r : Bool)
    (hr : r = !((List.range 6).any fun k => miss f (place h (c1u s) (8 * (f.length : Int)) k))) :
    Calls Try.prog 11 #[.slice A0 f.length c0, .slice A1 key.length c1] w fun e w' => e = .returned (.bool r) ∧ Below w.heap.size w w' := by
  have HR0 := Lib.hid hr0
  have HC0 := Lib.hid hc0
  have HR1 := Lib.hid hr1
  have HC1 := Lib.hid hc1
  have H1 := Lib.hid h1
  have H2 := Lib.hid h2
  have HR := Lib.hid hr
  clear hr0 hc0 hr1 hc1 h1 h2 hr
  refine (callsIn_wide (n := 3)).1 ?_
  refine callsIn_of_wp_marks Try.func11 rfl trivial ?_ rfl
  simp only [Try.ntmps11, List.size_toArray, List.length_cons, List.length_nil, Nat.reduceAdd, Nat.reduceSub, Array.replicate_succ, Array.replicate_zero, List.push_toArray, List.append_toArray, List.nil_append, List.cons_append]
  have g0 : ¬ (f.length : Int) = 0 := by omega
  have g1 : ¬ f.length = 0 := by omega
  gi_wp2_with (first | (gi_at_call 13; fail) | gi_in)
  obtain ⟨X, hX⟩ : ∃ X, X = (w.alloc (.cells #[.slice A0 f.length c0] 25)).alloc (.cells #[.bool false] 4) := ⟨_, rfl⟩
  have hXB : Below w.heap.size w X := by rw [hX]; exact ((Below.refl _ _).alloc (Nat.le_refl _) _).alloc (by simp) _
  have hXs : X.heap.size = w.heap.size + 2 := by rw [hX]; simp
  have hXf : X.heap[w.heap.size]? = some (.cells #[.slice A0 f.length c0] 25 (0, 0)) := by rw [hX]; exact (Below.heap_alloc _ _ _ (by simp)).trans (World.alloc_heap_new w _)
  have hXr : X.heap[w.heap.size + 1]? = some (.cells #[.bool false] 4 (0, 0)) := by rw [hX]; have := World.alloc_heap_new (w.alloc (.cells #[.slice A0 f.length c0] 25)) (.cells #[.bool false] 4); rwa [World.size_alloc] at this
  rw [← hX]
  clear hX
  refine ⟨trivial, ?_⟩
  refine (callsIn_wide.2 (places_calls k1 k2 A1 c1 key (8 * (f.length : Int)) h s X (Kd.C_below HR1.out hXB) HC1.out hl H1.out H2.out)).mono ?_
  rintro e W0 ⟨v, bh, bb, bs, rfl, hat, hb0⟩
  obtain ⟨rfl, hst, gh, gb, gs, nhb, nhs⟩ := hat
  have hW0B := below_then hXB hXB.size hb0
  have hW0f := (hb0.block _ (by omega)).trans hXf
  have hW0r := (hb0.block _ (by omega)).trans hXr
  have hz0 := hb0.size
  clear hb0 hXf hXr hXB
  obtain ⟨s', hs'⟩ : ∃ s', s' = c1u s := ⟨_, rfl⟩
  obtain ⟨bits, hbits⟩ : ∃ bits : Int, bits = 8 * (f.length : Int) := ⟨_, rfl⟩
  have hbp : 0 < bits := by omega
  have HBT := Lib.hid hbits
  have h0 : HasI w A0 c0 f bh bb bs h s' bits 0 0 W0 := ⟨hW0B, by rw [hs', hbits]; exact hst, hW0f, hW0r, fun j hj => absurd hj (Nat.not_lt_zero _)⟩
  have HR2 : Hid (r = !((List.range 6).any fun k => miss f (place h s' bits k))) := Lib.hid (by rw [hs', hbits]; exact HR.out)
  have hW0s : w.heap.size ≤ W0.heap.size := hW0B.size
  have HS := Lib.hid hs'
  clear hst hW0B hW0f hW0r HR H1 H2 hbits hs'
  gi_wp2
  refine wpIn_rangeFunc_sim (gf := 17) (lb := #[.pointer (some ⟨bh, 0, none⟩), .pointer (some ⟨bb, 0, none⟩), .pointer (some ⟨bs, 0, none⟩)]) rfl (enters_of Try.func17 (by kernel_rfl) rfl) (fun k => .int .i64 (place h s' bits k)) 6 rfl
    (PlSt bh bb bs h s' bits) (plAdv bh h s') (places1_sim bh bb bs h s' bits hbp) ?advL
    (fun k W => HasI w A0 c0 f bh bb bs h s' bits k k W) (fun k W => ∃ j, k = j + 1 ∧ HasI w A0 c0 f bh bb bs h s' bits j (j + 1) W)
    (fun W => Below w.heap.size w W ∧ W.heap[w.heap.size + 1]? = some (.cells #[.bool false] 4 (0, 0)) ∧ r = false)
    (fun k W l o o' hi hl hw ho => hi.put (by omega) hw ho) (fun k W l o o' ⟨j, hj, hi⟩ hl hw ho => ⟨j, hj, hi.put (by omega) hw ho⟩)
    (fun W l o o' ⟨hb, hc, hr⟩ hl hw ho => ⟨put_below hb (by omega) hw, put_cells hw ho hc, hr⟩)
    (fun k W hk ⟨j, hj, hi⟩ => by
      obtain rfl : k = j := by omega
      exact ⟨hi.st, hi.adv (by omega) nhb nhs⟩)
    (fun k W hi => hi.st) (fun r => (h0.alloc _).alloc _)
    (fun k => { tmps := #[.slice A0 f.length c0, .slice A1 key.length c1, .pointer (some ⟨w.heap.size, 0, none⟩), undef, .pointer (some ⟨w.heap.size + 1, 0, none⟩), .int .i64 (place h s' bits k), .slice A0 f.length c0, .int .i64 f.length, .bool false, .slice A1 key.length c1, .slice A0 f.length c0, .int .i64 f.length, .int .i64 (8 * f.length), .func (.func 17) #[] #[.pointer (some ⟨bh, 0, none⟩), .pointer (some ⟨bb, 0, none⟩), .pointer (some ⟨bs, 0, none⟩)], .int .i64 (place h s' bits k), undef, undef, undef, undef, undef, undef, undef, undef, undef, undef], defers := [] }) ?assign ?body ?done ?stop
  case advL =>
    intro k W l hl
    exact Below.heap_setCell W ⟨bh, 0, none⟩ _ _ (by show l ≠ bh; have := (Array.getElem?_eq_some_iff.1 h0.st.ch).1; omega)
  case assign =>
    intro l k W K hK
    gi_wp2
    exact hK
  case body =>
    intro l k W hi hk
    obtain ⟨p, hp⟩ : ∃ p, p = place h s' bits k := ⟨_, rfl⟩
    have hp0 : 0 ≤ p := by rw [hp]; exact place_nonneg _ _ _ _ hh
    have hp1 : p < bits := by rw [hp]; exact place_lt _ _ _ _ hbp
    obtain ⟨q, hq⟩ : ∃ q, q = Int.tdiv p 8 := ⟨_, rfl⟩
    have hq0 : 0 ≤ q := by rw [hq]; exact Int.tdiv_nonneg hp0 (by decide)
    have hq1 : q < (f.length : Int) := by
      have := HBT.out
      rw [hq, Int.tdiv_eq_ediv_of_nonneg hp0]
      omega
    have hw : wrap64 (Int.tdiv p 8) = q := by rw [← hq]; unfold wrap64; omega
    have hw' : IntKind.i64.wrap (Int.tdiv p 8) = q := by rw [i64_w]; exact hw
    have hm0 : 0 ≤ Int.tmod p 8 := Int.tmod_nonneg _ hp0
    obtain ⟨ad, rfl, hcx⟩ := Kd.at_int (Kd.C_below HR0.out hi.bel) q hq0 hq1
    have HQ := Lib.hid hq
    obtain ⟨x, hx⟩ : ∃ x, x = rd f q := ⟨_, rfl⟩
    rw [← hx] at hcx
    have HX := Lib.hid hx
    clear hq hx
    have cf := cell_of_one hi.cf
    have cr := cell_of_one hi.cr
    have fr := free_of_one hi.cr
    rw [← hp]
    have HI := Lib.hid hi
    have HPP := Lib.hid hp
    have mix : Try.prog.follows .mixedOrders = true := by kernel_rfl
    clear hi hp
    obtain ⟨mk, hmk⟩ : ∃ mk, mk = Go.bits .and .u8 x (IntKind.u8.wrap (2 ^ min (Int.tmod p 8).toNat 8)) := ⟨_, rfl⟩
    have HMK := Lib.hid hmk
    clear hmk
    gi_wp2
    rename_i Kx hKx
    have hgo : Kx { tmps := #[.slice (some ad) f.length c0, .slice A1 key.length c1, .pointer (some ⟨w.heap.size, 0, none⟩), undef, .pointer (some ⟨w.heap.size + 1, 0, none⟩), .int .i64 p,
        .slice (some ad) f.length c0, .int .i64 f.length, .bool false, .slice A1 key.length c1, .slice (some ad) f.length c0, .int .i64 f.length, .int .i64 (8 * f.length),
        .func (.func 17) #[] #[.pointer (some ⟨bh, 0, none⟩), .pointer (some ⟨bb, 0, none⟩), .pointer (some ⟨bs, 0, none⟩)],
        .int .i64 p, .slice (some ad) f.length c0, .int .i64 p, .int .i64 q, .pointer (some (ad.add q.toNat)), .int .u8 x, .int .i64 p, .int .i64 (Int.tmod p 8), .int .u8 (IntKind.u8.wrap (2 ^ min (Int.tmod p 8).toNat 8)),
        .int .u8 (Go.bits .and .u8 x (IntKind.u8.wrap (2 ^ min (Int.tmod p 8).toNat 8))), .bool (Go.bits .and .u8 x (IntKind.u8.wrap (2 ^ min (Int.tmod p 8).toNat 8)) == 0)], defers := [] } W.drew := by
      apply hKx
      rw [← HMK.out]
      have crd : W.drew.cell? ⟨w.heap.size + 1, 0, none⟩ = some (.bool false) := cr
      have frd : W.drew.frozen? ⟨w.heap.size + 1, 0, none⟩ = false := fr
      cases hmz : (mk == 0) with
      | true =>
        have hrf : Hid (r = false) := Lib.hid (by
          rw [HR2.out]
          have : ((List.range 6).any fun k => miss f (place h s' bits k)) = true := List.any_eq_true.2 ⟨k, List.mem_range.2 hk, by
            unfold miss mask
            rw [← HPP.out, ← HQ.out, ← HX.out, ← HMK.out]
            exact hmz⟩
          rw [this]
          rfl)
        gi_wp2
        exact ⟨(KeepsOthers.setCell W ⟨w.heap.size + 1, 0, none⟩ _).trans (KeepsOthers.drew _), (HI.out.bel.setCell (p := ⟨w.heap.size + 1, 0, none⟩) (Nat.le_succ _) _).drew, one_setCell HI.out.cr, hrf.out⟩
      | false =>
        have hno : Hid (miss f (place h s' bits k) = false) := Lib.hid (by
          unfold miss mask
          rw [← HPP.out, ← HQ.out, ← HX.out, ← HMK.out]
          exact hmz)
        gi_wp2
        refine ⟨KeepsOthers.drew W, k, rfl, HI.out.bel.drew, ⟨HI.out.st.ch, HI.out.st.cb, HI.out.st.cs⟩, HI.out.cf, HI.out.cr, fun j hj => ?_⟩
        by_cases e : j = k
        · rw [e]; exact hno.out
        · exact HI.out.no j (by omega)
    gi_region_with_o (fail)
    all_goals exact hgo
  case done =>
    intro W hi hD
    have cr := cell_of_one hi.cr
    have fr := free_of_one hi.cr
    have hrt : r = true := by
      rw [HR2.out]
      have : ((List.range 6).any fun k => miss f (place h s' bits k)) = false := List.any_eq_false.2 fun k hk => by rw [hi.no k (List.mem_range.1 hk)]; simp
      rw [this]
      rfl
    subst hrt
    have HI := Lib.hid hi
    have HD := Lib.hid hD
    clear hi hD
    gi_wp2
    have hK := (Below.heap_setCell W ⟨w.heap.size + 1, 0, none⟩ (.bool true) _ (by show W0.heap.size ≠ w.heap.size + 1; omega)).trans HD.out
    refine ⟨by simp, .inl ⟨_, _, rfl, run_takeDeferred hK, ?_⟩⟩
    have hc5 : ((W.setCell ⟨w.heap.size + 1, 0, none⟩ (.bool true)).putObj W0.heap.size (.deferred none)).cell? ⟨w.heap.size + 1, 0, none⟩ = some (.bool true) := cell_of_one (put_cells hK rfl (one_setCell HI.out.cr))
    refine ⟨.bool true, ?_, rfl, put_below (HI.out.bel.setCell (p := ⟨w.heap.size + 1, 0, none⟩) (Nat.le_succ _) _) (by omega) hK⟩
    simp [results, Try.f11, go_sem, hc5]
  case stop =>
    rintro W ⟨hb, hc, rfl⟩ hD
    gi_wp2
    refine ⟨by simp, .inl ⟨_, _, rfl, run_takeDeferred hD, ?_⟩⟩
    have hc5 : (W.putObj W0.heap.size (.deferred none)).cell? ⟨w.heap.size + 1, 0, none⟩ = some (.bool false) := cell_of_one (put_cells hD rfl hc)
    refine ⟨.bool false, ?_, rfl, put_below hb (by omega) hD⟩
    simp [results, Try.f11, go_sem, hc5]
end Go.Proofs.Ytojabcadoajbjaa
