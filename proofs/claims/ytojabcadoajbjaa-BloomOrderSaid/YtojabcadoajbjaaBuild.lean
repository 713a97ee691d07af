/-
  bloom.Build: what it answers is what the plain text buildB does.
-/
import Derived.Test.YtojabcadoajbjaaPlaceFacts
import Derived.Shelf.RegionOpen
import Derived.Shelf.Abstract
namespace Go.Proofs.Ytojabcadoajbjaa
open Go.RowKit Go.Proofs.YtojabcadoajbjaaW.PrintWords Go.Proofs.YtojabcadoajbjaaW.PrintLast Go.Proofs.YtojabcadoajbjaaW.PrintMore Go.Proofs.YtojabcadoajbjaaR
set_option linter.unusedVariables false
set_option linter.unusedSimpArgs false
attribute [local go_sem] Oper.semAt_some
attribute [local go_sem] max2_int max_two

def setBit (l : List Int) (p : Int) : List Int := l.set (Int.tdiv p 8).toNat (Go.bits .or .u8 (rd l (Int.tdiv p 8)) (mask p))
def setKey (l : List Int) (h s bits : Int) : Nat → List Int
  | 0 => l
  | k + 1 => setBit (setKey l h s bits k) (place h s bits k)
theorem setKey_length (l : List Int) (h s bits : Int) (k : Nat) : (setKey l h s bits k).length = l.length := by
  induction k with
  | zero => rfl
  | succ k ih => rw [setKey, setBit, List.length_set, ih]
def setAll (C : List Int → Int) (bits : Int) (l : List Int) (keys : List (List Int)) : List Int := keys.foldl (fun l key => setKey l (C key) (c1u (C (key ++ [1]))) bits 6) l
theorem setAll_length (C : List Int → Int) (bits : Int) (l : List Int) (keys : List (List Int)) : (setAll C bits l keys).length = l.length := by
  induction keys generalizing l with
  | nil => rfl
  | cons k ks ih => rw [setAll, List.foldl_cons]; exact (ih _).trans (setKey_length _ _ _ _ _)
/-- How things stand: the filter's cell and its row. -/
structure BdI (w : World) (m : Nat) (W : World) (row : List Int) : Prop where
  bel : Below w.heap.size w W
  co : W.heap[w.heap.size + 1]? = some (.cells #[.slice (some ⟨w.heap.size, 0, none⟩) m m] 25 (0, 0))
  ro : Own8 W w.heap.size (.slice (some ⟨w.heap.size, 0, none⟩) row.length m) row
  le : row.length = m
theorem BdI.start (w : World) (m : Nat) (hm : m ≤ 70368744177664) : BdI w m ((w.alloc (.cells (madeCells #[.int .u8 0] m) 5)).alloc (.cells #[.slice (some ⟨w.heap.size, 0, none⟩) m m] 25)) (List.replicate m 0) where
  bel := ((Below.refl _ _).alloc (Nat.le_refl _) _).alloc (by simp) _
  co := by have := World.alloc_heap_new (w.alloc (.cells (madeCells #[.int .u8 0] m) 5)) (.cells #[.slice (some ⟨w.heap.size, 0, none⟩) m m] 25); rwa [World.size_alloc] at this
  ro := by
    refine Kd.R_alloc ?_ _
    refine Kd.R_of_own ?_ (fun _ _ => trivial)
    rw [List.length_replicate]
    refine ⟨by simp [encs], .inr ⟨w.heap.size, m, madeCells #[.int .u8 0] m, rfl, Nat.le_refl _, World.alloc_heap_new w _, Nat.le_refl _, by unfold maxLen; omega, by rw [size_madeCells, Nat.mul_one], ?_⟩⟩
    rw [Nat.mul_one, List.take_of_length_le (by rw [Array.length_toList, size_madeCells]; exact Nat.le_refl _)]
    simp only [madeCells, encs]
    apply List.ext_getElem
    · simp
    · intro i h1 h2
      simp [Nat.mod_one]
  le := List.length_replicate
theorem BdI.move {w : World} {m : Nat} {W W' : World} {row : List Int} (h : BdI w m W row) (hb : Below w.heap.size w W') (h1 : W'.heap[w.heap.size]? = W.heap[w.heap.size]?) (h2 : W'.heap[w.heap.size + 1]? = W.heap[w.heap.size + 1]?) : BdI w m W' row where
  bel := hb
  co := h2.trans h.co
  ro := Kd.R_mono (Kd.R_move (Kd.R_tight rfl h.ro) (fun k hk => by obtain rfl : k = w.heap.size := by { simp [Value.ownBlock] at hk; exact hk }; exact h1)) (fun _ _ => trivial)
  le := h.le
theorem BdI.blk {w : World} {m : Nat} {W : World} {row : List Int} (h : BdI w m W row) : ∃ cells, W.heap[w.heap.size]? = some (.cells cells 5 (0, 0)) := Kd.R_typed h.ro _ rfl
theorem BdI.put {w : World} {m : Nat} {W : World} {row : List Int} {l : Nat} {o o' : Obj} (h : BdI w m W row) (hn : w.heap.size ≤ l) (hl : W.heap[l]? = some o) (ho : o.isCells = false) : BdI w m (W.putObj l o') row := by
  obtain ⟨cs, hc⟩ := h.blk
  exact h.move (put_below h.bel hn hl) ((put_cells hl ho hc).trans hc.symm) ((put_cells hl ho h.co).trans h.co.symm)
theorem BdI.far {w : World} {m : Nat} {W : World} {row : List Int} (h : BdI w m W row) (b : Nat) (hb : w.heap.size + 1 < b) (v : Value) : BdI w m (W.setCell ⟨b, 0, none⟩ v) row :=
  h.move (h.bel.setCell (p := ⟨b, 0, none⟩) (by show w.heap.size ≤ b; omega) _) (Below.heap_setCell W ⟨b, 0, none⟩ _ _ (by show w.heap.size ≠ b; omega)) (Below.heap_setCell W ⟨b, 0, none⟩ _ _ (by show w.heap.size + 1 ≠ b; omega))
theorem BdI.later {w : World} {m : Nat} {W W' : World} {row : List Int} (h : BdI w m W row) (hb : Below W.heap.size W W') : BdI w m W' row :=
  h.move (below_then h.bel h.bel.size hb) (hb.block _ (by obtain ⟨cs, hc⟩ := h.blk; exact (Array.getElem?_eq_some_iff.1 hc).1)) (hb.block _ (Array.getElem?_eq_some_iff.1 h.co).1)
theorem BdI.store {w : World} {m : Nat} {W : World} {row : List Int} (h : BdI w m W row) (q : Int) (x : Int) : BdI w m (W.setCell ⟨w.heap.size, q.toNat, none⟩ (.int .u8 x)) (row.set q.toNat x) where
  bel := h.bel.setCell (p := ⟨w.heap.size, q.toNat, none⟩) (Nat.le_refl _) _
  co := (Below.heap_setCell W ⟨w.heap.size, q.toNat, none⟩ _ _ (by show w.heap.size + 1 ≠ w.heap.size; omega)).trans h.co
  ro := by rw [List.length_set]; exact (Kd.R_put (enc := Value.int .u8) (h1 := fun _ => rfl) h.ro q x).1
  le := by rw [List.length_set]; exact h.le
def MarkLt (N : Nat) (ds : List Deferred) : Prop := ∀ D, (∃ d ∈ ds, d.target = .collected D) → D < N
theorem marks_lt {W : World} {ds : List Deferred} (h : Marks W ds) : MarkLt W.heap.size ds := by
  induction ds with
  | nil => rintro D ⟨d, hd, _⟩; cases hd
  | cons d ds ih =>
    rintro D ⟨x, hx, hxD⟩
    obtain ⟨⟨D', rfl, hD', _⟩, hr⟩ := h
    rcases List.mem_cons.1 hx with rfl | hx
    · cases hxD
      exact (Array.getElem?_eq_some_iff.1 hD').1
    · exact ih hr D ⟨x, hx, hxD⟩
def MarkGe (N : Nat) (ds : List Deferred) : Prop := ∀ D, (∃ d ∈ ds, d.target = .collected D) → N ≤ D
theorem leaves_marks2 {P : Program} {fn : Func} {tmps : Array Value} {R : Ending → World → Prop} (N : Nat) (T : World → Prop) (hT : ∀ W D, N ≤ D → T W → W.heap[D]? = some (.deferred (some [])) → T (W.putObj D (.deferred none)))
    (hR : ∀ W, T W → LeavesIn Fence.wide 3 P fn tmps R [] .returning W) : ∀ (ds : List Deferred) (W : World), MarkGe N ds → T W → Marks W ds → LeavesInM Fence.wide 3 P fn tmps R ds .returning W := by
  intro ds
  induction ds with
  | nil => intro W _ ht _; exact hR W ht
  | cons d ds ih =>
    rintro W hg ht ⟨⟨D, rfl, hD, hne⟩, hm⟩
    refine ⟨by simp, .inl ⟨D, _, rfl, run_takeDeferred hD, ih _ (fun D2 ⟨x, hx, hx2⟩ => hg D2 ⟨x, by simp [hx], hx2⟩) (hT _ _ (hg D ⟨{ target := .collected D, args := #[] }, by simp, rfl⟩) ht hD) (hm.of_same fun D2 h2 ⟨x, hx, hx2⟩ => ?_)⟩⟩
    by_cases e : D2 = D
    · subst e
      exact absurd hx2 (hne x hx)
    · exact (World.putObj_heap_other e).trans h2
theorem marks_put {W : World} {ds : List Deferred} {l N : Nat} {o' : Obj} (h : Marks W ds) (hm : MarkLt N ds) (hl : N ≤ l) : Marks (W.putObj l o') ds :=
  h.of_same fun D hD hd => (World.putObj_heap_other (by have := hm D hd; omega)).trans hD
theorem marks_set {W : World} {ds : List Deferred} (h : Marks W ds) (a : Addr) (v : Value) {cs : Array Value} {t : TypeId} (ha : W.heap[a.block]? = some (.cells cs t (0, 0))) : Marks (W.setCell a v) ds :=
  h.of_same fun D hD hd => (Below.heap_setCell W a v D (fun e => by subst e; rw [ha] at hD; cases hD)).trans hD
theorem marks_below {W W' : World} {ds : List Deferred} (h : Marks W ds) (hb : Below W.heap.size W W') : Marks W' ds :=
  h.of_same fun D hD hd => (hb.block _ (Array.getElem?_eq_some_iff.1 hD).1).trans hD
theorem setAll_succ (C : List Int → Int) (bits : Int) (l : List Int) (keys : List (List Int)) (j : Nat) (hj : j < keys.length) :
    setAll C bits l (keys.take (j + 1)) = setKey (setAll C bits l (keys.take j)) (C (keys.getD j [])) (c1u (C (keys.getD j [] ++ [1]))) bits 6 := by
  rw [List.take_succ_eq_append_getElem hj, List.getD_eq_getElem?_getD, List.getElem?_eq_getElem hj]
  simp only [setAll, List.foldl_append, List.foldl_cons, List.foldl_nil, Option.getD_some]
/-- How things stand in a round of a key's: k the walk's place, i how many of its bits are set. -/
structure BkI (w : World) (m : Nat) (row : List Int) (bh bb bs : Nat) (h s bits : Int) (ds : List Deferred) (k i : Nat) (W : World) : Prop where
  bd : BdI w m W (setKey row h s bits i)
  st : PlSt bh bb bs h s bits k W
  mks : Marks W ds
theorem BkI.put {w : World} {m : Nat} {row : List Int} {bh bb bs : Nat} {h s bits : Int} {ds : List Deferred} {k i : Nat} {W : World} {l N : Nat} {o o' : Obj} (hi : BkI w m row bh bb bs h s bits ds k i W) (hm : MarkLt N ds) (hn : w.heap.size ≤ l) (hN : N ≤ l) (hl : W.heap[l]? = some o) (ho : o.isCells = false) : BkI w m row bh bb bs h s bits ds k i (W.putObj l o') :=
  ⟨hi.bd.put hn hl ho, hi.st.put hl ho, marks_put hi.mks hm hN⟩
theorem BkI.adv {w : World} {m : Nat} {row : List Int} {bh bb bs : Nat} {h s bits : Int} {ds : List Deferred} {k i : Nat} {W : World} (hi : BkI w m row bh bb bs h s bits ds k i W) (hg : w.heap.size + 1 < bh) (n1 : bh ≠ bb) (n2 : bh ≠ bs) : BkI w m row bh bb bs h s bits ds (k + 1) i (plAdv bh h s k W) :=
  ⟨hi.bd.far bh hg _, hi.st.adv n1 n2, marks_set hi.mks _ _ hi.st.ch⟩
theorem BkI.alloc {w : World} {m : Nat} {row : List Int} {bh bb bs : Nat} {h s bits : Int} {ds : List Deferred} {k i : Nat} {W : World} (hi : BkI w m row bh bb bs h s bits ds k i W) (o : Obj) : BkI w m row bh bb bs h s bits ds k i (W.alloc o) :=
  have hb : Below W.heap.size W (W.alloc o) := (Below.refl _ _).alloc (Nat.le_refl _) _
  have lt : ∀ {b : Nat} {o' : Obj}, W.heap[b]? = some o' → (W.alloc o).heap[b]? = some o' := fun h => (hb.block _ (Array.getElem?_eq_some_iff.1 h).1).trans h
  ⟨hi.bd.later hb, ⟨lt hi.st.ch, lt hi.st.cb, lt hi.st.cs⟩, marks_below hi.mks hb⟩
def sizeOf_ (n : Nat) : Nat := max 8 ((10 * n + 7) / 8)

set_option maxRecDepth 100000 in
set_option maxHeartbeats 8000000 in
theorem build_walk (A : Option Addr) (c : Nat) (keys : List (List Int)) (C : List Int → Int) (w : World) (hr : Kd.C (Kd.slice 5 (Kd.int .u8)) w A keys.length keys) (hc : keys.length ≤ c) (hn : keys.length ≤ 5864062014700)
    (hC : ∀ key ∈ keys, key.length ≤ 140737488355000 ∧ (∃ k, F.code_Crc.f k key = some (C key)) ∧ (∃ k, F.code_Crc.f k (key ++ [1]) = some (C (key ++ [1]))) ∧ 0 ≤ C key ∧ C key < 4294967296) :
    Calls Try.prog 9 #[.slice A keys.length c] w fun e w' => ∃ v, e = .returned v ∧ Own8 w' w.heap.size v (setAll C (8 * (sizeOf_ keys.length : Int)) (List.replicate (sizeOf_ keys.length) 0) keys) ∧ Below w.heap.size w w' := by
  have HR := Lib.hid hr
  have HC := Lib.hid hc
  have HCC := Lib.hid hC
  clear hr hc hC
  refine (callsIn_wide (n := 3)).1 ?_
  refine callsIn_of_wp_marks Try.func9 rfl trivial ?_ rfl
  simp only [Try.ntmps9, List.size_toArray, List.length_cons, List.length_nil, Nat.reduceAdd, Nat.reduceSub, Array.replicate_succ, Array.replicate_zero, List.push_toArray, List.append_toArray, List.nil_append, List.cons_append]
  obtain ⟨m, hm⟩ : ∃ m : Nat, m = sizeOf_ keys.length := ⟨_, rfl⟩
  have hmk := print_make_int (P := Try.prog) 25 5 (.int .u8 0) 1 Try.underlying25 infoB rfl (by decide) (m : Int) (by omega) (by rw [hm]; unfold sizeOf_; omega)
  have hmx : (if 8 < (10 * (keys.length : Int) + 8 - 1) / 8 then (10 * (keys.length : Int) + 8 - 1) / 8 else 8) = (m : Int) := by rw [hm]; unfold sizeOf_; split <;> omega
  have HM := Lib.hid hm
  clear hm
  gi_wp2
  obtain ⟨X, hX⟩ : ∃ X, X = (w.alloc (.cells (madeCells #[.int .u8 0] m) 5)).alloc (.cells #[.slice (some ⟨w.heap.size, 0, none⟩) m m] 25) := ⟨_, rfl⟩
  have hb0 : BdI w m X (setAll C (8 * (m : Int)) (List.replicate m 0) (keys.take 0)) := by
    rw [hX]
    exact BdI.start w m (by rw [HM.out]; unfold sizeOf_; omega)
  rw [← hX]
  clear hX hmk hmx
  have hm8 : 8 ≤ m := by rw [HM.out]; unfold sizeOf_; omega
  have hm9 : m ≤ 281474976710656 := by rw [HM.out]; unfold sizeOf_; omega
  refine wpIn_loop (fun a W => ∃ (j : Nat) (ds : List Deferred) (u5 u18 u19 u20 u21 u22 u23 u24 u25 u37 : Value), j ≤ keys.length ∧
      a = { tmps := #[.slice A keys.length c, undef, .slice none 0 0, .pointer (some ⟨w.heap.size + 1, 0, none⟩), undef, u5, undef, .slice A keys.length c, .int .i64 keys.length, .int .i64 (10 * keys.length), .int .i64 (10 * keys.length + 8), .int .i64 (10 * keys.length + 8 - 1), .int .i64 ((10 * keys.length + 8 - 1) / 8), .int .i64 m, .slice (some ⟨w.heap.size, 0, none⟩) m m, .slice A keys.length c, .int .i64 keys.length, .int .i64 j, u18, u19, u20, u21, u22, u23, u24, u25, undef, undef, undef, undef, undef, undef, undef, undef, undef, undef, undef, u37, undef], defers := ds } ∧
      BdI w m W (setAll C (8 * (m : Int)) (List.replicate m 0) (keys.take j)) ∧ Marks W ds ∧ MarkGe w.heap.size ds) (fun a _ => keys.length - (intOf (a.tmps.getD 17 undef)).toNat)
    ⟨0, [], undef, undef, undef, undef, undef, undef, undef, undef, undef, undef, Nat.zero_le _, rfl, hb0, trivial, fun D ⟨d, hd, _⟩ => by cases hd⟩ ?_
  rintro a W ⟨j, ds, u5, u18, u19, u20, u21, u22, u23, u24, u25, u37, hj, rfl, hI, hmarks, hge⟩
  by_cases hlt : j < keys.length
  · obtain ⟨adk, cs, rfl, hcl, ⟨Ak, ck, rfl, hkl, hkC⟩, hcell⟩ := Kd.C_get (Kd.C_below HR.out hI.bel) [] (j : Int) (by omega) (by omega)
    obtain ⟨key, hkey⟩ : ∃ key, key = keys.getD j [] := ⟨_, rfl⟩
    rw [Int.toNat_natCast, ← hkey] at hkl hkC
    have hmem : key ∈ keys := by rw [hkey, List.getD_eq_getElem?_getD, List.getElem?_eq_getElem hlt]; exact List.getElem_mem hlt
    obtain ⟨hkn, ⟨k1, hk1⟩, ⟨k2, hk2⟩, hc0, hc1⟩ := HCC.out key hmem
    have hcx := hcell 0 _ rfl
    rw [Int.toNat_natCast, ← hkey, show (Kd.slice 5 (Kd.int .u8)).sz = 1 from rfl, Nat.mul_one, Nat.add_zero] at hcx
    have cco := cell_of_one hI.co
    obtain ⟨row, hrow⟩ : ∃ row, row = setAll C (8 * (m : Int)) (List.replicate m 0) (keys.take j) := ⟨_, rfl⟩
    have hsu := setAll_succ C (8 * (m : Int)) (List.replicate m 0) keys j hlt
    rw [← hrow, ← hkey] at hsu
    rw [← hrow] at hI
    have HSU := Lib.hid hsu
    have HI := Lib.hid hI
    have HMK := Lib.hid hmarks
    have HK1 := Lib.hid hk1
    have HK2 := Lib.hid hk2
    have HKC := Lib.hid hkC
    have HKL := Lib.hid hkl
    clear hkey hrow hsu hI hmarks hk1 hk2 hcell hcl hkC hkl hmem hb0
    generalize C key = hh at *
    generalize C (key ++ [1]) = ss at *
    gi_wp2_with (first | (gi_at_call 13; fail) | gi_in)
    refine ⟨trivial, (callsIn_wide.2 (places_calls k1 k2 Ak ck key (8 * (m : Int)) hh ss W HKC.out HKL.out hkn HK1.out HK2.out)).mono ?_⟩
    rintro e W0 ⟨v, bh, bb, bs, rfl, hat, hbW⟩
    obtain ⟨rfl, hst, gh, gb, gs, nhb, nhs⟩ := hat
    have hI0 := HI.out.later hbW
    have hM0 := marks_below HMK.out hbW
    have hml : MarkLt W0.heap.size ds := fun D hd => Nat.lt_of_lt_of_le (marks_lt HMK.out D hd) hbW.size
    have hz : w.heap.size + 1 < W.heap.size := (Array.getElem?_eq_some_iff.1 HI.out.co).1
    have hz0 := hbW.size
    have HI0 := Lib.hid hI0
    have HM0 := Lib.hid hM0
    clear hbW hI0 hM0 hcx cco
    obtain ⟨bits, hbits⟩ : ∃ bits : Int, bits = 8 * (m : Int) := ⟨_, rfl⟩
    obtain ⟨s', hs'⟩ : ∃ s', s' = c1u ss := ⟨_, rfl⟩
    rw [← hbits, ← hs'] at hst HSU
    have hbp : 0 < bits := by omega
    have HBT := Lib.hid hbits
    have HST := Lib.hid hst
    have HS' := Lib.hid hs'
    clear hbits hst hs'
    gi_wp2
    refine wpIn_rangeFunc_sim (gf := 17) (lb := #[.pointer (some ⟨bh, 0, none⟩), .pointer (some ⟨bb, 0, none⟩), .pointer (some ⟨bs, 0, none⟩)]) rfl (enters_of Try.func17 (by kernel_rfl) rfl) (fun k => .int .i64 (place hh s' bits k)) 6 rfl
      (PlSt bh bb bs hh s' bits) (plAdv bh hh s') (places1_sim bh bb bs hh s' bits hbp) ?advL
      (fun k W => BkI w m row bh bb bs hh s' bits ds k k W) (fun k W => ∃ j, k = j + 1 ∧ BkI w m row bh bb bs hh s' bits ds j (j + 1) W) (fun _ => False)
      (fun k W l o o' hi hl hw ho => hi.put hml (by omega) hl hw ho) (fun k W l o o' ⟨j, hj, hi⟩ hl hw ho => ⟨j, hj, hi.put hml (by omega) hl hw ho⟩)
      (fun W l o o' h _ _ _ => h.elim)
      (fun k W hk ⟨j, hj, hi⟩ => by
        obtain rfl : k = j := by omega
        exact ⟨hi.st, hi.adv (by omega) nhb nhs⟩)
      (fun k W hi => hi.st) (fun r => ?h0)
      (fun k => { tmps := #[.slice (some adk) keys.length c, undef, .slice none 0 0, .pointer (some ⟨w.heap.size + 1, 0, none⟩), undef, .slice Ak key.length ck, .int .i64 (place hh s' bits k), .slice (some adk) keys.length c, .int .i64 keys.length, .int .i64 (10 * keys.length), .int .i64 (10 * keys.length + 8), .int .i64 (10 * keys.length + 8 - 1), .int .i64 ((10 * keys.length + 8 - 1) / 8), .int .i64 m, .slice (some ⟨w.heap.size, 0, none⟩) m m, .slice (some adk) keys.length c, .int .i64 keys.length, .int .i64 j, .bool true, .pointer (some (adk.add j)), .slice Ak key.length ck, .slice Ak key.length ck, .slice (some ⟨w.heap.size, 0, none⟩) m m, .int .i64 m, .int .i64 (8 * m), .func (.func 17) #[] #[.pointer (some ⟨bh, 0, none⟩), .pointer (some ⟨bb, 0, none⟩), .pointer (some ⟨bs, 0, none⟩)], .int .i64 (place hh s' bits k), undef, undef, undef, undef, undef, undef, undef, undef, undef, undef, u37, undef], defers := [] }) ?assign ?body ?done ?stop
    case advL =>
      intro k W l hl
      exact Below.heap_setCell W ⟨bh, 0, none⟩ _ _ (by show l ≠ bh; have := (Array.getElem?_eq_some_iff.1 HST.out.ch).1; omega)
    case h0 =>
      have h0 : BkI w m row bh bb bs hh s' bits ds 0 0 W0 := ⟨HI0.out, HST.out, HM0.out⟩
      exact (h0.alloc _).alloc _
    case assign =>
      intro l k W K hK
      gi_wp2
      exact hK
    case body =>
      intro l k W1 hi hk
      obtain ⟨p, hp⟩ : ∃ p, p = place hh s' bits k := ⟨_, rfl⟩
      have hp0 : 0 ≤ p := by rw [hp]; exact place_nonneg _ _ _ _ ⟨hc0, hc1⟩
      have hp1 : p < bits := by rw [hp]; exact place_lt _ _ _ _ hbp
      obtain ⟨q, hq⟩ : ∃ q, q = Int.tdiv p 8 := ⟨_, rfl⟩
      have hq0 : 0 ≤ q := by rw [hq]; exact Int.tdiv_nonneg hp0 (by decide)
      have hq1 : q < (m : Int) := by
        have := HBT.out
        rw [hq, Int.tdiv_eq_ediv_of_nonneg hp0]
        omega
      have hw : wrap64 (Int.tdiv p 8) = q := by rw [← hq]; unfold wrap64; omega
      have hw' : IntKind.i64.wrap (Int.tdiv p 8) = q := by rw [i64_w]; exact hw
      have hm0 : 0 ≤ Int.tmod p 8 := Int.tmod_nonneg _ hp0
      obtain ⟨hcx, hfx⟩ := Kd.R_cell (enc := Value.int .u8) (h1 := fun _ => rfl) (0 : Int) hi.bd.ro q hq0 (by rw [hi.bd.le]; exact hq1)
      have cco := cell_of_one hi.bd.co
      obtain ⟨x, hx⟩ : ∃ x, x = rd (setKey row hh s' bits k) q := ⟨_, rfl⟩
      rw [show rdOf (0 : Int) (setKey row hh s' bits k) q = x from hx.symm] at hcx
      rw [← hp]
      have HQ := Lib.hid hq
      have HX := Lib.hid hx
      have HIJ := Lib.hid hi
      have HPP := Lib.hid hp
      have mix : Try.prog.follows .mixedOrders = true := by kernel_rfl
      have hgo : KeepsOthers W1 (W1.setCell ⟨w.heap.size, q.toNat, none⟩ (.int .u8 (Go.bits .or .u8 x (IntKind.u8.wrap (2 ^ min (Int.tmod p 8).toNat 8))))).drew ∧
          ∃ j, k + 1 = j + 1 ∧ BkI w m row bh bb bs hh s' bits ds j (j + 1) (W1.setCell ⟨w.heap.size, q.toNat, none⟩ (.int .u8 (Go.bits .or .u8 x (IntKind.u8.wrap (2 ^ min (Int.tmod p 8).toNat 8))))).drew := by
        obtain ⟨cs0, hcs0⟩ := hi.bd.blk
        refine ⟨(KeepsOthers.setCell W1 ⟨w.heap.size, q.toNat, none⟩ _).trans (KeepsOthers.drew _), k, rfl, ?_, ?_, ?_⟩
        · have h := (hi.bd.store q (Go.bits .or .u8 x (mask p))).later (below_drew (Below.refl _ _))
          rw [setKey, setBit, ← hp, ← hq, ← hx]
          exact h
        · have n1 : ∀ b, W.heap.size ≤ b → b ≠ w.heap.size := fun b hb e => by omega
          exact ⟨(Below.heap_setCell W1 ⟨w.heap.size, q.toNat, none⟩ _ _ (n1 bh gh)).trans hi.st.ch, (Below.heap_setCell W1 ⟨w.heap.size, q.toNat, none⟩ _ _ (n1 bb gb)).trans hi.st.cb, (Below.heap_setCell W1 ⟨w.heap.size, q.toNat, none⟩ _ _ (n1 bs gs)).trans hi.st.cs⟩
        · exact marks_below (marks_set hi.mks ⟨w.heap.size, q.toNat, none⟩ _ hcs0) (below_drew (Below.refl _ _))
      have HGO := Lib.hid hgo
      clear hi hp hq hx hp1 hgo
      gi_wp2
      gi_region_with_o (fail)
      all_goals exact HGO.out
    case done =>
      intro W1 hi hD
      have HIJ := Lib.hid hi
      have HDD := Lib.hid hD
      clear hi hD
      gi_wp2
      refine ⟨⟨j + 1, { target := .collected W0.heap.size, args := #[] } :: ds, _, _, _, _, _, _, _, _, _, _, by omega, rfl, ?_, ⟨⟨W0.heap.size, rfl, HDD.out, fun x hx e => absurd (hml _ ⟨x, hx, e⟩) (Nat.lt_irrefl _)⟩, HIJ.out.mks⟩, ?_⟩, ?_⟩
      · rw [← HBT.out, HSU.out]
        exact HIJ.out.bd
      · rintro D ⟨d, hd, hdD⟩
        rcases List.mem_cons.1 hd with rfl | hd
        · cases hdD
          omega
        · exact hge D ⟨d, hd, hdD⟩
      · show keys.length - ((j : Int) + 1).toNat < keys.length - (j : Int).toNat
        omega
    case stop =>
      intro W1 h _
      exact h.elim
  · obtain rfl : j = keys.length := by omega
    have cco := cell_of_one hI.co
    rw [List.take_length] at hI
    have HI := Lib.hid hI
    have HMK := Lib.hid hmarks
    clear hI hmarks hb0
    gi_wp2
    refine leaves_marks2 w.heap.size (fun W => BdI w m W (setAll C (8 * (m : Int)) (List.replicate m 0) keys)) (fun W D hD0 hb hD => hb.put hD0 hD rfl) (fun W hb => ?_) ds W hge HI.out HMK.out
    · refine ⟨.slice (some ⟨w.heap.size, 0, none⟩) m m, ?_, _, rfl, ?_, hb.bel⟩
      · simp [results, Try.f9, go_sem]
      · rw [← HM.out]
        have := hb.ro
        rw [hb.le] at this
        exact this
end Go.Proofs.Ytojabcadoajbjaa
