-- JOINED BY A PROGRAM OF THIS PLACE (wip/tools/pack.py) out of: F36 F38 TVal TRev
import Derived.Test.YtopacnaiedlaaaaDoorL6
import Derived.Test.YtopacnaiedlaaaaDoorL7
import Derived.Test.YtopacnaiedlaaaaDoorL13
section
-- WRITTEN BY A PROGRAM OF THIS PLACE (wip/tools/pp.sh: the print, turned for functions proved by hand). Lean checks it.
namespace Go.Proofs.YtopacnaiedlaaaaDoor.F
open Go.RowKit Go.Proofs.YtopacnaiedlaaaaDoorW.PrintWords Go.Proofs.YtopacnaiedlaaaaDoorW.PrintLast Go.Proofs.YtopacnaiedlaaaaDoorW.PrintMore
attribute [local go_sem] max2_int min2_int max_two min_two max_three min_three max_four min_four   -- for this text's walks alone
set_option linter.unusedVariables false
set_option linter.unusedSimpArgs false
/-! ### hash_Node: function 41 -/
def hash_Node.f (a0 : ByteArray) (a1 : ByteArray) : Option (ByteArray) := (hash_joined.f a0 a1).bind fun t291 => ((sha_Sum.f t291).bind fun t294 => (some t294))
set_option maxHeartbeats 8000000 in
set_option maxRecDepth 100000 in
theorem hash_Node.calls (a0 : ByteArray) (a1 : ByteArray) (r : ByteArray) (w : World) (h : hash_Node.f a0 a1 = some r) :
    Calls Tryd.prog 41 #[.string a0, .string a1] w fun e w' => e = .returned (.string r) ∧ Below w.heap.size w w' := by
  (have HB := Aside0.mk (Below.refl w.heap.size w)); (have H : ((hash_joined.f a0 a1).bind fun t291 => ((sha_Sum.f t291).bind fun t294 => (some t294))) = some r := h); (clear h); (replace H := Option.bind_eq_some_iff.mp H); (obtain ⟨t291, A30, H⟩ := H); (replace H : ((sha_Sum.f t291).bind fun t294 => (some t294)) = some r := H); (have A3 := Aside0.mk A30); (clear A30); (replace H := Option.bind_eq_some_iff.mp H); (obtain ⟨t294, A40, H⟩ := H); (replace H : (some t294) = some r := H); (have A4 := Aside0.mk A40); (clear A40); (obtain rfl := Option.some.inj H); (go_enter Tryd.func41, Tryd.ntmps41); (go_wp2_with (first | ((with_reducible refine gate_callee (f := 61) rfl ?_); refine goesL_ (some 7) rfl rfl Tryd.func61 (by kernel_rfl) rfl #[.string a0, .string a1] rfl (by (try simp only [List.map_toArray, List.map_cons, List.map_nil]); first | done | rfl | (simp only [List.length_drop, List.length_take]; rfl)) ?_; (with_reducible refine (hash_joined.calls a0 a1 t291 _ A3.out).mono ?_); rintro e w5 ⟨v292, rfl, ho0, hb⟩; refine ⟨_, rfl, ?_⟩; have n0_ := Aside0.mk (Kd.R_lower ho0 (below_size (by repeat (first | (with_reducible first | exact HB.out | apply below_alloc | apply pw_below_drewN | apply below_drew1) | exact HB.out)))); have n1_ := Aside0.mk (below_step (by repeat (first | (with_reducible first | exact HB.out | apply below_alloc | apply pw_below_drewN | apply below_drew1) | exact HB.out)) hb); clear HB; have HO293 := n0_; have HB := n1_; clear n0_ n1_; (try clear hb); (try clear hb2); (try clear hk); (try clear hi); (try clear ho0); obtain ⟨Ao6, co6, eo6⟩ := Kd.R_slice HO293.out; subst eo6) | ((with_reducible refine gate_callee (f := 46) rfl ?_); refine goesL_ (some 8) rfl rfl Tryd.func46 (by kernel_rfl) rfl #[.slice Ao6 t291.length co6] rfl (by (try simp only [List.map_toArray, List.map_cons, List.map_nil]); first | done | rfl | (simp only [List.length_drop, List.length_take]; rfl)) ?_; (with_reducible refine (sha_Sum.calls _ _ t291 t294 _ ?side1 ?side2 A4.out).mono ?_); (case side1 => repeat (first | exact (Kd.R_reads' HO293.out).2.2 | (with_reducible refine Kd.C_alloc ?_ _) | (with_reducible refine Kd.C_drewN ?_ _) | (with_reducible refine Kd.C_drew ?_))); (case side2 => exact (Kd.R_reads' HO293.out).2.1); rintro e w7 ⟨rfl, hb⟩; refine ⟨_, rfl, ?_⟩; have n0_ := Aside0.mk (Kd.R_below (by (with_reducible repeat (first | apply Kd.R_alloc | apply Kd.R_drewN | apply Kd.R_drew)); exact HO293.out) hb); have n1_ := Aside0.mk (below_step (by repeat (first | (with_reducible first | exact HB.out | apply below_alloc | apply pw_below_drewN | apply below_drew1) | exact HB.out)) hb); clear HO293; clear HB; have HO293 := n0_; have HB := n1_; clear n0_ n1_; (try clear hb); (try clear hb2); (try clear hk); (try clear hi)))); (go_ret); (exact ⟨by first | rfl | (simp [errW_none, errW_some] <;> rfl) | (simp [*, errW_none, errW_some] <;> rfl), by repeat (first | (with_reducible first | exact HB.out | apply below_alloc | apply pw_below_drewN | apply below_drew1) | exact HB.out)⟩)
end Go.Proofs.YtopacnaiedlaaaaDoor.F
end
section
-- WRITTEN BY A PROGRAM OF THIS PLACE (wip/tools/pp.sh: the print, turned for functions proved by hand). Lean checks it.
namespace Go.Proofs.YtopacnaiedlaaaaDoor.F
open Go.RowKit Go.Proofs.YtopacnaiedlaaaaDoorW.PrintWords Go.Proofs.YtopacnaiedlaaaaDoorW.PrintLast Go.Proofs.YtopacnaiedlaaaaDoorW.PrintMore
attribute [local go_sem] max2_int min2_int max_two min_two max_three min_three max_four min_four   -- for this text's walks alone
set_option linter.unusedVariables false
set_option linter.unusedSimpArgs false
/-! ### hash_Leaf: function 44 -/
def hash_Leaf.f (l0 : List Int) : Option (ByteArray) := (some (([0] : List Int) : List Int)).bind fun y416 => (if y416.length + l0.length < 140737488355328 then ((sha_Sum.f (y416 ++ l0)).bind fun t422 => (some t422)) else (none))
set_option maxHeartbeats 8000000 in
set_option maxRecDepth 100000 in
theorem hash_Leaf.calls (A0 : Option Addr) (c0 : Nat) (l0 : List Int) (r : ByteArray) (w : World) (hr0 : Kd.C (Kd.int .u8) w A0 l0.length l0) (hc0 : l0.length ≤ c0) (h : hash_Leaf.f l0 = some r) :
    Calls Tryd.prog 44 #[.slice A0 l0.length c0] w fun e w' => e = .returned (.string r) ∧ Below w.heap.size w w' := by
  (have HR0 := Aside0.mk hr0); (have HC0 := Aside0.mk hc0); (clear hr0 hc0); (have HB := Aside0.mk (Below.refl w.heap.size w)); (have H : ((some (([0] : List Int) : List Int)).bind fun y416 => (if y416.length + l0.length < 140737488355328 then ((sha_Sum.f (y416 ++ l0)).bind fun t422 => (some t422)) else (none))) = some r := h); (clear h); (obtain ⟨y416, hy416⟩ : ∃ y_ : List Int, y_ = (([0] : List Int)) := ⟨_, rfl⟩); (replace H : (if y416.length + l0.length < 140737488355328 then ((sha_Sum.f (y416 ++ l0)).bind fun t422 => (some t422)) else (none)) = some r := by first | (rw [hy416]; with_reducible exact H) | (have H2_ := (Option.bind_some _ _).symm.trans H; rw [hy416]; with_reducible exact H2_) | (have H2_ := (Option.bind_some _ _).symm.trans H; with_reducible exact H2_) | with_reducible exact H | (rw [hy416]; exact H) | exact H); (have Ny416 := Aside0.mk hy416); (clear hy416); (by_cases c2 : y416.length + l0.length < 140737488355328); (focus ((rw [if_pos c2] at H); (have LMc2 := Aside0.mk c2); (clear c2); (obtain ⟨y419, hy419⟩ : ∃ y_ : List Int, y_ = (y416 ++ l0) := ⟨_, rfl⟩); (replace H : ((sha_Sum.f y419).bind fun t422 => (some t422)) = some r := by first | (rw [hy419]; with_reducible exact H) | (have H2_ := (Option.bind_some _ _).symm.trans H; rw [hy419]; with_reducible exact H2_) | (have H2_ := (Option.bind_some _ _).symm.trans H; with_reducible exact H2_) | with_reducible exact H | (rw [hy419]; exact H) | exact H); (have Ny419 := Aside0.mk hy419); (clear hy419); (replace H := Option.bind_eq_some_iff.mp H); (obtain ⟨t422, A30, H⟩ := H); (replace H : (some t422) = some r := H); (have A3 := Aside0.mk A30); (clear A30); (obtain rfl := Option.some.inj H); (go_enter Tryd.func44, Tryd.ntmps44); (go_wp2_with (first | ((with_reducible refine gate_dst (N := 3) rfl ?_); refine Kd.R_lit (Kd.int .u8) _ 5 ?hg (N := 3) ?hd (xs := ([0] : List Int)) (inner := [.int .u8 0]) (ok := fun _ => True) (okp := fun _ => True) ?hr ?hp (fun _ hk => hk) trivial (Below.refl _ _) (Nat.le_refl _) (by simp) ?_; (case hd => rfl); (case hg => rfl); (case hr => first | (go_simp; done) | (go_simp; rfl) | (go_simp; simp [IntKind.wrap_u32]; done)); (case hp => exact (Reps.one (show Kd.M (Kd.int .u8) _ _ _ 0 [.int .u8 0] from rfl) (Reps.none _ _))); intro v417 w4 ho5 hb hg_ hnew_; clear hg_ hnew_; (first | rw [← Ny416.out] at ho5 | (simp only [Int.reduceToNat] at ho5; rw [← Ny416.out] at ho5)); have n0_ := Aside0.mk (Kd.R_lower ho5 (below_size (by repeat (first | (with_reducible first | exact HB.out | apply below_alloc | apply pw_below_drewN | apply below_drew1) | exact HB.out)))); have n1_ := Aside0.mk (below_step (by repeat (first | (with_reducible first | exact HB.out | apply below_alloc | apply pw_below_drewN | apply below_drew1) | exact HB.out)) hb); clear HB; have HO418 := n0_; have HB := n1_; clear n0_ n1_; clear hb ho5) | ((with_reducible refine gate_builtin (b := .append) (xs := #[.tmp 3, .tmp 4]) rfl ?_); at_builtin; refine Kd.R_append_rows (Kd.int .u8) (w0 := w) w.heap.size rfl (.tmp 3) (.tmp 4) 76 5 (.int .u8 0) 1 rfl Tryd.underlying76 info5 rfl (by decide) (by omega) v417 y416 l0 _ _ _ (fun _ => True) (fun _ => False) rfl rfl ?aO ?aR (fun _ _ h => h) (fun _ h => h.elim) ?aF ?aB ?aS ?aL ?_; (case aR => repeat (first | exact (Kd.C_below HR0.out HB.out) | (with_reducible refine Kd.C_alloc ?_ _) | (with_reducible refine Kd.C_drewN ?_ _) | (with_reducible refine Kd.C_drew ?_))); (case aB => exact (by repeat (first | (with_reducible first | exact HB.out | apply below_alloc | apply pw_below_drewN | apply below_drew1) | exact HB.out))); (case aF => exact (fun _ _ => trivial)); (case aO => exact (by (with_reducible repeat (first | apply Kd.R_alloc | apply Kd.R_drewN | apply Kd.R_drew)); exact HO418.out)); (case aS => exact (below_size (by repeat (first | (with_reducible first | exact HB.out | apply below_alloc | apply pw_below_drewN | apply below_drew1) | exact HB.out)))); (case aL => have := LMc2.out; omega); intro v420 w6 ho hb hg hat; rw [← Ny419.out] at ho; have n0_ := Aside0.mk (hb); have n1_ := Aside0.mk (ho); clear HB; clear HO418; have HB := n0_; have HO421 := n1_; clear n0_ n1_; clear ho hb hg hat; obtain ⟨Ao7, co7, eo7⟩ := Kd.R_slice HO421.out; subst eo7) | ((with_reducible refine gate_callee (f := 46) rfl ?_); refine goesL_ (some 6) rfl rfl Tryd.func46 (by kernel_rfl) rfl #[.slice Ao7 y419.length co7] rfl (by (try simp only [List.map_toArray, List.map_cons, List.map_nil]); first | done | rfl | (simp only [List.length_drop, List.length_take]; rfl)) ?_; (with_reducible refine (sha_Sum.calls _ _ y419 t422 _ ?side1 ?side2 A3.out).mono ?_); (case side1 => repeat (first | exact (Kd.R_reads' HO421.out).2.2 | (with_reducible refine Kd.C_alloc ?_ _) | (with_reducible refine Kd.C_drewN ?_ _) | (with_reducible refine Kd.C_drew ?_))); (case side2 => exact (Kd.R_reads' HO421.out).2.1); rintro e w8 ⟨rfl, hb⟩; refine ⟨_, rfl, ?_⟩; have n0_ := Aside0.mk (Kd.R_below (by (with_reducible repeat (first | apply Kd.R_alloc | apply Kd.R_drewN | apply Kd.R_drew)); exact HO421.out) hb); have n1_ := Aside0.mk (below_step (by repeat (first | (with_reducible first | exact HB.out | apply below_alloc | apply pw_below_drewN | apply below_drew1) | exact HB.out)) hb); clear HO421; clear HB; have HO421 := n0_; have HB := n1_; clear n0_ n1_; (try clear hb); (try clear hb2); (try clear hk); (try clear hi)))); (go_ret); (exact ⟨by first | rfl | (simp [errW_none, errW_some] <;> rfl) | (simp [*, errW_none, errW_some] <;> rfl), by repeat (first | (with_reducible first | exact HB.out | apply below_alloc | apply pw_below_drewN | apply below_drew1) | exact HB.out)⟩))); (focus ((rw [if_neg c2] at H); (exact absurd H (by simp))))
end Go.Proofs.YtopacnaiedlaaaaDoor.F
end
section
/-
  Rows of rows, told by their cells alone: the row's cells are slices; what each leads to is told beside them.
-/
namespace Go.Proofs.YtopacnaiedlaaaaDoor
open Go.RowKit Go.Proofs.YtopacnaiedlaaaaDoorW.PrintWords Go.Proofs.YtopacnaiedlaaaaDoorW.PrintLast Go.Proofs.YtopacnaiedlaaaaDoorW.PrintMore
set_option linter.unusedVariables false
set_option linter.unusedSimpArgs false
/-- a slice as it lies in a cell -/
structure SlV where
  A : Option Addr
  n : Nat
  c : Nat
def dV : SlV := ⟨none, 0, 0⟩
def encV (p : SlV) : Value := .slice p.A p.n p.c
def kv : Kd SlV := Kd.scalar encV (fun _ => rfl)
theorem at_kv {w : World} {A : Option Addr} {n : Nat} {xs : List SlV} (h : kv.C w A n xs) (i : Int) (h0 : 0 ≤ i) (h1 : i < n) : ∃ ad, A = some ad ∧ w.cell? (ad.add i.toNat) = some (.slice (rdOf dV xs i).A (rdOf dV xs i).n (rdOf dV xs i).c) :=
  ReadsOf.at_ (Kd.reads_of_C (enc := encV) (d := dV) (h1 := fun _ => rfl) h) i h0 h1
section
variable {α : Type} {q e : Nat} {d : Kd α} {w w' : World} {base : Nat} {ok : Nat → Prop} {v v' : Value} {xs ys : List (List α)} {vals vals' : List SlV}
/-- what the cells of a row of rows lead to -/
def Inner (q : Nat) (d : Kd α) (w : World) (base : Nat) (ok : Nat → Prop) (f : Nat → Nat) (vals : List SlV) (xs : List (List α)) : Prop :=
  vals.length = xs.length ∧ ∀ (j : Nat) (x : List α), xs[j]? = some x → ∃ p, vals[j]? = some p ∧ d.R q w base (fun k => ok k ∧ f k = j) (encV p) x
theorem S_vals (h : Kd.S (Kd.slice q d) e w base ok v xs) : ∃ vals f, kv.R e w base (fun k => some k = v.ownBlock) v vals ∧ (∀ k, v.ownBlock = some k → ok k) ∧ Inner q d w base (fun k => ok k ∧ some k ≠ v.ownBlock) f vals xs := by
  obtain ⟨f, h0, inner, ho, hr⟩ := h
  have hl : inner.length = xs.length := by
    have := hr.1
    rw [List.length_zipIdx] at this
    simpa [Kd.tag, Kd.slice] using this
  have get : ∀ (j : Nat) (x : List α), xs[j]? = some x → ∃ p : SlV, inner[j]? = some (encV p) ∧ d.R q w base (fun k => (ok k ∧ some k ≠ v.ownBlock) ∧ f k = j) (encV p) x := by
    intro j x hj
    obtain ⟨u, hu, hR⟩ := hr.2 j (x, j) (Kd.zip_at hj)
    have hu' : (inner.drop (j * 1)).take 1 = [u] := hu
    rw [Nat.mul_one] at hu'
    have hg : inner[j]? = some u := by
      have := congrArg (·[0]?) hu'
      simpa [List.getElem?_take, List.getElem?_drop] using this
    obtain ⟨A, c, rfl⟩ := Kd.R_slice hR
    exact ⟨⟨A, x.length, c⟩, hg, hR⟩
  let dec : Value → SlV := fun u => match u with
    | .slice A n c => ⟨A, n, c⟩
    | _ => dV
  have hdec : ∀ p : SlV, dec (encV p) = p := fun p => rfl
  have he : encs encV (inner.map dec) = inner := by
    apply List.ext_getElem?
    intro j
    unfold encs
    rw [List.map_map, List.getElem?_map]
    rcases Nat.lt_or_ge j inner.length with hj | hj
    · obtain ⟨p, hp, _⟩ := get j xs[j] (List.getElem?_eq_getElem (by omega))
      rw [hp]
      simp [hdec]
    · rw [List.getElem?_eq_none hj]; rfl
  refine ⟨inner.map dec, f, ?_, h0, by rw [List.length_map, hl], fun j x hj => ?_⟩
  · refine Kd.R_of_own ?_ (fun k hk => hk.symm)
    rw [he, List.length_map, hl]
    rw [List.length_zipIdx] at ho
    exact ho
  · obtain ⟨p, hp, hR⟩ := get j x hj
    exact ⟨p, by rw [List.getElem?_map, hp]; simp [hdec], hR⟩
theorem S_of_vals {f : Nat → Nat} (h : kv.R e w base (fun k => some k = v.ownBlock) v vals) (h0 : ∀ k, v.ownBlock = some k → ok k) (hi : Inner q d w base (fun k => ok k ∧ some k ≠ v.ownBlock) f vals xs) : Kd.S (Kd.slice q d) e w base ok v xs := by
  have ho := Kd.own_of_R h
  refine ⟨f, h0, encs encV vals, ?_, ?_, ?_⟩
  · rw [List.length_zipIdx, ← hi.1]
    exact ho
  · rw [List.length_zipIdx, ← hi.1]
    simp [encs, Kd.tag, Kd.slice]
  · intro j p hj
    rw [List.getElem?_zipIdx, Nat.zero_add] at hj
    obtain ⟨x, hx, rfl⟩ := Option.map_eq_some_iff.1 hj
    obtain ⟨u, hu, hR⟩ := hi.2 j x hx
    refine ⟨encV u, ?_, hR⟩
    show ((encs encV vals).drop (j * 1)).take 1 = [encV u]
    have hg : (encs encV vals)[j]? = some (encV u) := by unfold encs; rw [List.getElem?_map, hu]; rfl
    obtain ⟨hlt, hge⟩ := List.getElem?_eq_some_iff.1 hg
    rw [Nat.mul_one, List.drop_eq_getElem_cons hlt, hge]
    rfl
theorem Inner.move {f : Nat → Nat} (h : Inner q d w base ok f vals xs) (hm : ∀ k, ok k → k < w.heap.size → w'.heap[k]? = w.heap[k]?) : Inner q d w' base ok f vals xs :=
  ⟨h.1, fun j x hj => by
    obtain ⟨p, hp, hR⟩ := h.2 j x hj
    exact ⟨p, hp, Kd.R_step hR (fun k hk => hm k hk.1)⟩⟩
theorem Inner.reverse {f : Nat → Nat} (h : Inner q d w base ok f vals xs) : Inner q d w base ok (fun k => xs.length - 1 - f k) vals.reverse xs.reverse :=
  ⟨by rw [List.length_reverse, List.length_reverse]; exact h.1, fun j x hj => by
    have hlt := (List.getElem?_eq_some_iff.1 hj).1
    rw [List.length_reverse] at hlt
    rw [List.getElem?_reverse hlt] at hj
    obtain ⟨p, hp, hR⟩ := h.2 _ x hj
    refine ⟨p, by rw [List.getElem?_reverse (by rw [h.1]; exact hlt), h.1]; exact hp, Kd.R_mono hR (fun k hk => ⟨hk.1, ?_⟩)⟩
    have h2 : f k = xs.length - 1 - j := hk.2
    show xs.length - 1 - f k = j
    omega⟩
end
end Go.Proofs.YtopacnaiedlaaaaDoor
end
section
/-
  slices.Reverse at rows of rows: the walk over the cells is written by wip/tools/gen_tile.py out of the printed walk of slices.Reverse at rows of texts.
-/
namespace Go.Proofs.YtopacnaiedlaaaaDoor
open Go.RowKit Go.Proofs.YtopacnaiedlaaaaDoorW.PrintWords Go.Proofs.YtopacnaiedlaaaaDoorW.PrintLast Go.Proofs.YtopacnaiedlaaaaDoorW.PrintMore
attribute [local go_sem] max2_int min2_int max_two min_two max_three min_three max_four min_four   -- for this text's walks alone
set_option linter.unusedVariables false
set_option linter.unusedSimpArgs false
/-! ### revV: function 54 -/
def revV.l0 : Nat → List SlV → Int → Int → Option (List SlV)
  | 0, _, _, _ => none
  | k + 1, x0, x2, x3 => if x2 < x3 then (if 0 ≤ x3 then (if x3 < (x0.length : Int) then (if 0 ≤ x2 then (if x2 < (x0.length : Int) then (revV.l0 k ((x0.set (x2 : Int).toNat (rdOf dV x0 x3)).set (x3 : Int).toNat (rdOf dV x0 x2)) (wrap64 (x2 + 1)) (wrap64 (x3 - 1))) else (none)) else (none)) else (none)) else (none)) else (some x0)
def revV.f (k : Nat) (l0 : List SlV) : Option (List SlV) := revV.l0 k l0 0 (wrap64 ((l0.length : Int) - 1))
theorem revV.mono_l : ∀ k, (∀ y0 y1 y2, LeO (revV.l0 k y0 y1 y2) (revV.l0 (k + 1) y0 y1 y2))
  | 0 => fun _ _ _ r h => by simp [revV.l0] at h
  | k + 1 => by
    have ih0 := revV.mono_l k
    · intro y0 y1 y2
      unfold revV.l0
      repeat' first
      | (with_reducible exact ih0 _ _ _)
      | (with_reducible exact LeO.refl _)
      | (with_reducible exact LeO.none _)
      | (with_reducible refine LeO.ite ?_ ?_)
      | (with_reducible refine LeO.bind ?_ (fun _ => ?_))
      | exact ih0 _ _ _
      | exact LeO.none _
      | refine LeO.ite ?_ ?_
      | refine LeO.bind ?_ (fun _ => ?_)
theorem revV.mono : ∀ a0 k, LeO (revV.f k a0) (revV.f (k + 1) a0) := by
  intro a0 k
  have ih0 := revV.mono_l k
  unfold revV.f
  repeat' first
      | (with_reducible exact ih0 _ _ _)
      | (with_reducible exact LeO.refl _)
      | (with_reducible exact LeO.none _)
      | (with_reducible refine LeO.ite ?_ ?_)
      | (with_reducible refine LeO.bind ?_ (fun _ => ?_))
      | exact ih0 _ _ _
      | exact LeO.none _
      | refine LeO.ite ?_ ?_
      | refine LeO.bind ?_ (fun _ => ?_)
def revV.T3 : Bool × List (List Nat × List Nat) := (true, [([], []), ([], []), ([], []), ([], []), ([], []), ([], []), ([4, 5], [4, 5]), ([6], [6]), ([], []), ([], []), ([8, 9], [8, 9]), ([10], [10]), ([0, 1, 0, 1, 4, 5, 6, 7, 11], [0, 1]), ([12, 7, 0, 1, 4, 5, 6, 7, 11], [7, 12]), ([2, 3, 0, 1, 2, 3, 4, 5, 6, 7, 8, 9, 10, 11, 12, 13], [2, 3]), ([14, 11, 13, 0, 1, 2, 3, 4, 5, 6, 7, 8, 9, 10, 11, 12, 13], [11, 14])])
def revV.B3 : List Nat := [0, 0, 0, 0, 0, 0, 48, 112, 0, 0, 768, 1792, 4083, 8179, 16383, 32767]
theorem revV.tab3 : rtab .any (opsOf Tryd.f54 3) = revV.T3 := by kernel_rfl
theorem revV.bits3 : waitsOk revV.T3.2 revV.B3 = true := by kernel_rfl
set_option maxHeartbeats 8000000 in
set_option maxRecDepth 100000 in
theorem revV.calls (k : Nat) (P0_ : Nat → Prop) (u9000_ : Value) (l0 : List SlV) (r : List SlV) (w0 w : World) (hB : Below w0.heap.size w0 w) (ho0 : Kd.R kv 24 w w0.heap.size P0_ u9000_ l0) (h : revV.f k l0 = some r) :
    Calls Tryd.prog 54 #[u9000_] w fun e w' => e = .returned (.tuple #[]) ∧ Kd.R kv 24 w' w0.heap.size (fun k_ => (P0_ k_ ∨ w.heap.size ≤ k_)) u9000_ r ∧ Below w0.heap.size w0 w' ∧ Kept w w' (fun k_ => P0_ k_) := by
  have HO0 := Aside0.mk (show Kd.R kv 24 w w0.heap.size (fun k_ => (P0_ k_ ∨ w.heap.size ≤ k_)) u9000_ l0 from Kd.R_mono ho0 (fun k_ hk => (.inl hk)))
  have HK := Aside0.mk (Kept.refl w (fun k_ => P0_ k_))
  have HW0 := Aside0.mk hB.size
  have HB := Aside0.mk hB
  clear hB
  have H : (revV.l0 k l0 0 (wrap64 ((l0.length : Int) - 1))) = some r := h
  clear h
  have H' := Aside0.mk H
  clear H
  obtain ⟨Ao2, co2, eo2⟩ := Kd.R_slice HO0.out
  subst eo2
  go_enter Tryd.func54, Tryd.ntmps54
  go_wp2
  go_loopg [2, 3] k (fun kq v2 v3 w' => ∃ (x0_1 : List SlV) (x2_1 : Int) (x3_1 : Int), v2 = .int .i64 x2_1 ∧ v3 = .int .i64 x3_1 ∧ Aside0 (revV.l0 kq x0_1 x2_1 x3_1 = some r) ∧ Aside0 (kq ≤ k) ∧ Aside0 (Kd.R kv 24 w' w0.heap.size (fun k_ => (P0_ k_ ∨ w.heap.size ≤ k_)) (.slice Ao2 l0.length co2) x0_1) ∧ Aside0 (Kept w w' (fun k_ => P0_ k_)) ∧ Aside0 (Below w0.heap.size w0 w'))
  case atStart => exact ⟨(l0), (0), (wrap64 ((l0.length : Int) - 1)), (by first | rfl | (simp; done) | (simp [*]; done)), (by first | rfl | (simp; done) | (simp [*]; done)), H', ⟨Nat.le_refl _⟩, ⟨by (with_reducible repeat (first | apply Kd.R_alloc | apply Kd.R_drewN | apply Kd.R_drew)); exact HO0.out⟩, ⟨by repeat (first | (with_reducible first | exact HK.out | apply Kept.alloc | apply Kept.drewN | apply Kept.drew) | exact HK.out)⟩, ⟨by repeat (first | (with_reducible first | exact HB.out | apply below_alloc | apply pw_below_drewN | apply below_drew1) | exact HB.out)⟩⟩
  case round =>
    clear H'
    try clear p2
    obtain ⟨x0_1, x2_1, x3_1, rfl, rfl, HA, HK1, HO_0, HK, HB⟩ := hrel
    have hl0_1 := (Kd.R_reads' HO_0.out).1
    rw [hl0_1] at HO_0
    (try simp only [hl0_1])
    cases gk with
    | zero => exact absurd HA.out (by simp [revV.l0])
    | succ k1 =>
      have H := HA.out
      clear HA
      simp only [revV.l0] at H
      by_cases c3 : x2_1 < x3_1
      · rw [if_pos c3] at H
        have c3b0 : decide (x2_1 < x3_1) = true := decide_eq_true c3
        clear c3
        by_cases c4 : 0 ≤ x3_1
        · rw [if_pos c4] at H
          have c4b0 : decide (0 ≤ x3_1) = true := decide_eq_true c4
          clear c4
          by_cases c5 : x3_1 < (x0_1.length : Int)
          · rw [if_pos c5] at H
            have c5b0 : decide (x3_1 < (x0_1.length : Int)) = true := decide_eq_true c5
            clear c5
            by_cases c6 : 0 ≤ x2_1
            · rw [if_pos c6] at H
              have c6b0 : decide (0 ≤ x2_1) = true := decide_eq_true c6
              clear c6
              by_cases c7 : x2_1 < (x0_1.length : Int)
              · rw [if_pos c7] at H
                have c7b0 : decide (x2_1 < (x0_1.length : Int)) = true := decide_eq_true c7
                clear c7
                obtain ⟨y460, hy460⟩ : ∃ y_ : List SlV, y_ = (x0_1.set (x2_1 : Int).toNat (rdOf dV x0_1 x3_1)) := ⟨_, rfl⟩
                replace H : (revV.l0 k1 (y460.set (x3_1 : Int).toNat (rdOf dV x0_1 x2_1)) (wrap64 (x2_1 + 1)) (wrap64 (x3_1 - 1))) = some r := by first | (rw [hy460]; with_reducible exact H) | (have H2_ := (Option.bind_some _ _).symm.trans H; rw [hy460]; with_reducible exact H2_) | (have H2_ := (Option.bind_some _ _).symm.trans H; with_reducible exact H2_) | with_reducible exact H | (rw [hy460]; exact H) | exact H
                have Ny460 := Aside0.mk hy460
                clear hy460
                obtain ⟨y461, hy461⟩ : ∃ y_ : List SlV, y_ = (y460.set (x3_1 : Int).toNat (rdOf dV x0_1 x2_1)) := ⟨_, rfl⟩
                replace H : (revV.l0 k1 y461 (wrap64 (x2_1 + 1)) (wrap64 (x3_1 - 1))) = some r := by first | (rw [hy461]; with_reducible exact H) | (have H2_ := (Option.bind_some _ _).symm.trans H; rw [hy461]; with_reducible exact H2_) | (have H2_ := (Option.bind_some _ _).symm.trans H; with_reducible exact H2_) | with_reducible exact H | (rw [hy461]; exact H) | exact H
                have Ny461 := Aside0.mk hy461
                clear hy461
                have H' := Aside0.mk H
                clear H
                try go_wp2
                have n0_ := Aside0.mk (Kd.R_drew HO_0.out)
                have n1_ := Aside0.mk (Kept.drew HK.out)
                have n2_ := Aside0.mk (below_drew1 HB.out)
                clear HO_0
                clear HK
                clear HB
                have HO_0 := n0_
                have HK := n1_
                have HB := n2_
                clear n0_ n1_ n2_
                have p458 : 0 ≤ (x3_1 : Int) := of_decide_eq_true (by first | (with_reducible assumption) | assumption)
                have q458 : x3_1 < (x0_1.length : Int) := of_decide_eq_true (by first | (with_reducible assumption) | assumption)
                obtain ⟨ad458, e458, hx458_0⟩ := at_kv (Kd.R_reads' HO_0.out).2.2 x3_1 p458 q458
                cases e458
                replace p458 := eq_true p458
                replace q458 := eq_true q458
                have p459 : 0 ≤ (x2_1 : Int) := of_decide_eq_true (by first | (with_reducible assumption) | assumption)
                have q459 : x2_1 < (x0_1.length : Int) := of_decide_eq_true (by first | (with_reducible assumption) | assumption)
                obtain ⟨ad459, e459, hx459_0⟩ := at_kv (Kd.R_reads' HO_0.out).2.2 x2_1 p459 q459
                obtain rfl : ad458 = ad459 := (by injection e459)
                replace p459 := eq_true p459
                replace q459 := eq_true q459
                have p8 : 0 ≤ (x2_1 : Int) := of_decide_eq_true (by first | (with_reducible assumption) | assumption)
                have q8 : (x2_1 : Int) < ((x0_1.length : Int) : Int) := of_decide_eq_true (by first | (with_reducible assumption) | assumption)
                obtain ⟨go8, co8, eo8, gb8, gl8, cl8, HG8⟩ := Kd.R_form HO_0.out (by omega)
                (first | cases eo8 | (injection eo8 with ea_ en_ ec_; (first | subst ea_ | (injection ea_ with ea_; subst ea_)); subst ec_; clear en_))
                have GB8 := Aside0.mk gb8
                have GG8 := Aside0.mk HG8
                clear gb8 gl8 HG8
                have HMgo8 := Aside0.mk (show (P0_ go8 ∨ w.heap.size ≤ go8) from (HO_0.out.1 _ rfl))
                (first | simp only [add_plain] at hx458_0 | skip)
                (first | simp only [add_plain] at hx459_0 | skip)
                obtain ⟨hx8_0, hf8_0⟩ := Kd.R_celln dV HO_0.out (x2_1 : Int) p8 q8
                try simp only [encV] at hx8_0
                try simp only [encV] at hf8_0
                replace p8 := eq_true p8
                replace q8 := eq_true q8
                have HP11 := Kd.R_putn HO_0.out (x2_1 : Int) (rdOf dV x0_1 x3_1)
                rw [← Ny460.out] at HP11
                have HQ11 := Aside0.mk HP11
                clear HP11
                have p9 : 0 ≤ (x3_1 : Int) := of_decide_eq_true (by first | (with_reducible assumption) | assumption)
                have q9 : (x3_1 : Int) < ((x0_1.length : Int) : Int) := of_decide_eq_true (by first | (with_reducible assumption) | assumption)
                obtain ⟨hx9_0, hf9_0⟩ := Kd.R_celln dV HQ11.out (x3_1 : Int) p9 q9
                try simp only [encV] at hx9_0
                try simp only [encV] at hf9_0
                replace p9 := eq_true p9
                replace q9 := eq_true q9
                have HP12 := Kd.R_putn HQ11.out (x3_1 : Int) (rdOf dV x0_1 x2_1)
                rw [← Ny461.out] at HP12
                have HQ12 := Aside0.mk HP12
                clear HP12
                refine start_ (n := 16) (S := fun w' => w'.cell? ⟨go8, (x3_1).toNat, none⟩ = some (.slice (rdOf dV x0_1 x3_1).A (rdOf dV x0_1 x3_1).n (rdOf dV x0_1 x3_1).c) ∧ w'.cell? ⟨go8, (x2_1).toNat, none⟩ = some (.slice (rdOf dV x0_1 x2_1).A (rdOf dV x0_1 x2_1).n (rdOf dV x0_1 x2_1).c)) (ds := [13, 15]) #[false, false, false, false, false, false, false, false, false, false, false, false, false, false, false, false] (by kernel_rfl) rfl rfl ⟨hx458_0, hx459_0⟩ (fun hHeld => ?_); refine with_tabW revV.tab3 revV.bits3 (fun HT_ HW_ => ?_)
                generalize wr.drew = w10 at HO_0 HK HB GG8 HQ11 HQ12 hf8_0 hf9_0 hx458_0 hx459_0 hx8_0 hx9_0 hHeld ⊢
                refine pure_ (i := 0) (N := some 14) (v := ?_) (a' := ?_) #[true, false, false, false, false, false, false, false, false, false, false, false, false, false, false, false] rfl rfl (any_of HT_.out (by kernel_rfl)) (fun _ _ _ h => h) (Or.inl ⟨by rfl, ?_⟩) ?_ ?_
                rotate_left
                · intro w'
                  go_simp
                  with_reducible rfl
                rotate_left
                · simp only [Act.put, List.setIfInBounds_toArray, List.set_cons_zero, List.set_cons_succ, i64_w, i32_w]
                  rfl
                refine pure_ (i := 1) (N := some 15) (v := ?_) (a' := ?_) #[true, true, false, false, false, false, false, false, false, false, false, false, false, false, false, false] rfl rfl (any_of HT_.out (by kernel_rfl)) (fun _ _ _ h => h) (Or.inl ⟨by rfl, ?_⟩) ?_ ?_
                rotate_left
                · intro w'
                  go_simp
                  with_reducible rfl
                rotate_left
                · simp only [Act.put, List.setIfInBounds_toArray, List.set_cons_zero, List.set_cons_succ, i64_w, i32_w]
                  rfl
                refine pure_ (i := 2) (N := some 16) (v := ?_) (a' := ?_) #[true, true, true, false, false, false, false, false, false, false, false, false, false, false, false, false] rfl rfl (any_of HT_.out (by kernel_rfl)) (fun _ _ _ h => h) (Or.inl ⟨by rfl, ?_⟩) ?_ ?_
                rotate_left
                · intro w'
                  go_simp
                  with_reducible rfl
                rotate_left
                · simp only [Act.put, List.setIfInBounds_toArray, List.set_cons_zero, List.set_cons_succ, i64_w, i32_w]
                  rfl
                refine pure_ (i := 3) (N := some 17) (v := ?_) (a' := ?_) #[true, true, true, true, false, false, false, false, false, false, false, false, false, false, false, false] rfl rfl (any_of HT_.out (by kernel_rfl)) (fun _ _ _ h => h) (Or.inl ⟨by rfl, ?_⟩) ?_ ?_
                rotate_left
                · intro w'
                  go_simp
                  with_reducible rfl
                rotate_left
                · simp only [Act.put, List.setIfInBounds_toArray, List.set_cons_zero, List.set_cons_succ, i64_w, i32_w]
                  rfl
                refine pure_ (i := 4) (N := some 18) (v := ?_) (a' := ?_) #[true, true, true, true, true, false, false, false, false, false, false, false, false, false, false, false] rfl rfl (any_of HT_.out (by kernel_rfl)) (fun _ _ _ h => h) (Or.inl ⟨by rfl, ?_⟩) ?_ ?_
                rotate_left
                · intro w'
                  go_simp
                  with_reducible rfl
                rotate_left
                · simp only [Act.put, List.setIfInBounds_toArray, List.set_cons_zero, List.set_cons_succ, i64_w, i32_w]
                  rfl
                refine pure_ (i := 5) (N := some 19) (v := ?_) (a' := ?_) #[true, true, true, true, true, true, false, false, false, false, false, false, false, false, false, false] rfl rfl (any_of HT_.out (by kernel_rfl)) (fun _ _ _ h => h) (Or.inl ⟨by rfl, ?_⟩) ?_ ?_
                rotate_left
                · intro w'
                  go_simp
                  with_reducible rfl
                rotate_left
                · simp only [Act.put, List.setIfInBounds_toArray, List.set_cons_zero, List.set_cons_succ, i64_w, i32_w]
                  rfl
                refine pure_ (i := 6) (N := some 20) (v := ?_) (a' := ?_) #[true, true, true, true, true, true, true, false, false, false, false, false, false, false, false, false] rfl rfl (any_of HT_.out (by kernel_rfl)) (fun _ _ _ h => h) (Or.inl ⟨by rfl, ?_⟩) ?_ ?_
                rotate_left
                · intro w'
                  go_simp
                  with_reducible rfl
                rotate_left
                · simp only [Act.put, List.setIfInBounds_toArray, List.set_cons_zero, List.set_cons_succ, i64_w, i32_w]
                  rfl
                refine pure_ (i := 8) (N := some 22) (v := ?_) (a' := ?_) #[true, true, true, true, true, true, true, false, true, false, false, false, false, false, false, false] rfl rfl (any_of HT_.out (by kernel_rfl)) (fun _ _ _ h => h) (Or.inl ⟨by rfl, ?_⟩) ?_ ?_
                rotate_left
                · intro w'
                  go_simp
                  with_reducible rfl
                rotate_left
                · simp only [Act.put, List.setIfInBounds_toArray, List.set_cons_zero, List.set_cons_succ, i64_w, i32_w]
                  rfl
                refine pure_ (i := 9) (N := some 23) (v := ?_) (a' := ?_) #[true, true, true, true, true, true, true, false, true, true, false, false, false, false, false, false] rfl rfl (any_of HT_.out (by kernel_rfl)) (fun _ _ _ h => h) (Or.inl ⟨by rfl, ?_⟩) ?_ ?_
                rotate_left
                · intro w'
                  go_simp
                  with_reducible rfl
                rotate_left
                · simp only [Act.put, List.setIfInBounds_toArray, List.set_cons_zero, List.set_cons_succ, i64_w, i32_w]
                  rfl
                refine pure_ (i := 10) (N := some 24) (v := ?_) (a' := ?_) #[true, true, true, true, true, true, true, false, true, true, true, false, false, false, false, false] rfl rfl (any_of HT_.out (by kernel_rfl)) (fun _ _ _ h => h) (Or.inl ⟨by rfl, ?_⟩) ?_ ?_
                rotate_left
                · intro w'
                  go_simp
                  with_reducible rfl
                rotate_left
                · simp only [Act.put, List.setIfInBounds_toArray, List.set_cons_zero, List.set_cons_succ, i64_w, i32_w]
                  rfl
                refine take_ (i := 7) (N := some 21) (v := ?_) (a' := ?_) #[true, true, true, true, true, true, true, true, true, true, true, false, false, false, false, false] rfl rfl (take_ofW HT_.out HW_.out (by kernel_rfl)) (fun _ _ _ h => h) (Or.inl ⟨by rfl, ?_⟩) hHeld ?_ ?_
                rotate_left
                · rintro w' ⟨s0, s1⟩
                  go_simp
                  with_reducible rfl
                rotate_left
                · simp only [Act.put, List.setIfInBounds_toArray, List.set_cons_zero, List.set_cons_succ, i64_w, i32_w]
                  rfl
                refine take_ (i := 11) (N := some 25) (v := ?_) (a' := ?_) #[true, true, true, true, true, true, true, true, true, true, true, true, false, false, false, false] rfl rfl (take_ofW HT_.out HW_.out (by kernel_rfl)) (fun _ _ _ h => h) (Or.inl ⟨by rfl, ?_⟩) hHeld ?_ ?_
                rotate_left
                · rintro w' ⟨s0, s1⟩
                  go_simp
                  with_reducible rfl
                rotate_left
                · simp only [Act.put, List.setIfInBounds_toArray, List.set_cons_zero, List.set_cons_succ, i64_w, i32_w]
                  rfl
                refine pure_ (i := 12) (N := some 26) (v := ?_) (a' := ?_) #[true, true, true, true, true, true, true, true, true, true, true, true, true, false, false, false] rfl rfl (any_of HT_.out (by kernel_rfl)) (fun _ _ _ h => h) (Or.inl ⟨by rfl, ?_⟩) ?_ ?_
                rotate_left
                · intro w'
                  go_simp
                  with_reducible rfl
                rotate_left
                · simp only [Act.put, List.setIfInBounds_toArray, List.set_cons_zero, List.set_cons_succ, i64_w, i32_w]
                  rfl
                refine last_ (i := 13) (N := none) #[true, true, true, true, true, true, true, true, true, true, true, true, true, true, false, false] rfl rfl (one_of HT_.out (by kernel_rfl)) (by decide) (fun K hK => ?_)
                refine skip_ (w1 := ?_) (by rfl) rfl ?_ ?_
                rotate_left
                · go_simp
                  rfl
                refine hK.out _ _ ?_
                clear hK K
                refine pure_ (i := 14) (N := some 27) (v := ?_) (a' := ?_) #[true, true, true, true, true, true, true, true, true, true, true, true, true, true, true, false] rfl rfl (any_of HT_.out (by kernel_rfl)) (fun _ _ _ h => h) (Or.inl ⟨by rfl, ?_⟩) ?_ ?_
                rotate_left
                · intro w'
                  go_simp
                  with_reducible rfl
                rotate_left
                · simp only [Act.put, List.setIfInBounds_toArray, List.set_cons_zero, List.set_cons_succ, i64_w, i32_w]
                  rfl
                refine last_ (i := 15) (N := none) #[true, true, true, true, true, true, true, true, true, true, true, true, true, true, true, true] rfl rfl (one_of HT_.out (by kernel_rfl)) (by decide) (fun K hK => ?_)
                refine skip_ (w1 := ?_) (by rfl) rfl ?_ ?_
                rotate_left
                · go_simp
                  rfl
                refine hK.out _ _ ?_
                clear hK K
                refine done_ (done_of HT_.out (by kernel_rfl)) ?_
                try go_wp2
                (try simp only [← hl0_1])
                go_roundg k1
                case measure => have := HK1.out; omega
                case rel => exact ⟨(y461), (wrap64 (x2_1 + 1)), (wrap64 (x3_1 - 1)), (by first | rfl | (simp; done) | (simp [*]; done)), (by first | rfl | (simp; done) | (simp [*]; done)), H', ⟨by have := HK1.out; omega⟩, ⟨by (try simp only [hl0_1]); (with_reducible repeat (first | apply Kd.R_alloc | apply Kd.R_drewN | apply Kd.R_drew)); exact HQ12.out⟩, ⟨by repeat (first | (with_reducible first | exact HK.out | apply Kept.alloc | apply Kept.drewN | apply Kept.drew | refine Kept.setCell ?_ HMgo8.out _ | refine Kept.setCell ?_ HMgo8.out _) | exact HK.out)⟩, ⟨by repeat (first | (with_reducible first | exact HB.out | apply below_alloc | apply pw_below_drewN | apply below_drew1 | refine below_set ?_ GB8.out | refine below_set ?_ GB8.out) | exact HB.out)⟩⟩
              · rw [if_neg c7] at H
                exact absurd H (by simp)
            · rw [if_neg c6] at H
              exact absurd H (by simp)
          · rw [if_neg c5] at H
            exact absurd H (by simp)
        · rw [if_neg c4] at H
          exact absurd H (by simp)
      · rw [if_neg c3] at H
        have c3b0 : decide (x2_1 < x3_1) = false := decide_eq_false c3
        clear c3
        obtain rfl := Option.some.inj H
        go_wp2
        first | go_end0 | ((try simp only [Exit.inBlock, Exit.then]); refine bodyPost_ret (results_none rfl _ _ _) rfl ?_)
        exact ⟨by first | rfl | (simp [errW_none, errW_some] <;> rfl) | (simp [*, errW_none, errW_some] <;> rfl), (by first | exact (by (with_reducible repeat (first | apply Kd.R_alloc | apply Kd.R_drewN | apply Kd.R_drew)); exact HO_0.out) | (simp only [hl0_1]; exact (by (with_reducible repeat (first | apply Kd.R_alloc | apply Kd.R_drewN | apply Kd.R_drew)); exact HO_0.out))), by repeat (first | (with_reducible first | exact HB.out | apply below_alloc | apply pw_below_drewN | apply below_drew1) | exact HB.out), by repeat (first | (with_reducible first | exact HK.out | apply Kept.alloc | apply Kept.drewN | apply Kept.drew) | exact HK.out)⟩
theorem rev_vals_from (n : Nat) : ∀ (A M B : List SlV), M.length = n → (A ++ M ++ B).length ≤ 9223372036854775807 → Ev (fun k => revV.l0 k (A ++ M ++ B) (A.length : Int) ((A.length : Int) + (M.length : Int) - 1)) (A ++ M.reverse ++ B) := by
  induction n using Nat.strongRecOn with
  | ind n ih =>
    intro A M B hM hL
    rcases Nat.lt_or_ge M.length 2 with h2 | h2
    · have hr : M.reverse = M := by
        cases M with
        | nil => rfl
        | cons x r =>
          cases r with
          | nil => rfl
          | cons y r => simp at h2; omega
      rw [hr]
      refine Ev.step (f := fun _ => some _) (fun k => ?_) (Ev.now _)
      simp only [revV.l0]
      rw [if_neg (by omega)]
    · obtain ⟨x, r, rfl⟩ : ∃ x r, M = x :: r := by
        cases M with
        | nil => simp at h2
        | cons x r => exact ⟨x, r, rfl⟩
      obtain ⟨M', y, rfl⟩ : ∃ M' y, r = M' ++ [y] := by
        refine ⟨r.dropLast, r.getLast (by intro e; subst e; simp at h2), ?_⟩
        exact (List.dropLast_concat_getLast _).symm
      have hl : (x :: (M' ++ [y])).length = M'.length + 2 := by simp
      have hlen : (A ++ (x :: (M' ++ [y])) ++ B).length = A.length + M'.length + 2 + B.length := by simp; omega
      have h := ih M'.length (by omega) (A ++ [y]) M' (x :: B) rfl (by simp at hL ⊢; omega)
      have e : (A ++ [y]) ++ M'.reverse ++ (x :: B) = A ++ (x :: (M' ++ [y])).reverse ++ B := by simp
      rw [e] at h
      refine Ev.step (fun k => ?_) h
      simp only [revV.l0]
      rw [hlen] at hL
      rw [hl, hlen, if_pos (by omega), if_pos (by omega), if_pos (by omega), if_pos (by omega), if_pos (by omega)]
      have hj : ((A.length : Int) + ((M'.length + 2 : Nat) : Int) - 1).toNat = A.length + M'.length + 1 := by omega
      have hy : rdOf dV (A ++ (x :: (M' ++ [y])) ++ B) ((A.length : Int) + ((M'.length + 2 : Nat) : Int) - 1) = y := by
        unfold rdOf
        rw [hj, List.getD_eq_getElem?_getD, List.append_assoc, List.getElem?_append_right (by omega), show A.length + M'.length + 1 - A.length = M'.length + 1 by omega, List.cons_append, List.getElem?_cons_succ, List.append_assoc, List.getElem?_append_right (by omega), Nat.sub_self]
        rfl
      have hx : rdOf dV (A ++ (x :: (M' ++ [y])) ++ B) (A.length : Int) = x := by
        unfold rdOf
        rw [Int.toNat_natCast, List.getD_eq_getElem?_getD, List.append_assoc, List.getElem?_append_right (by omega), Nat.sub_self]
        rfl
      rw [hy, hx, hj, Int.toNat_natCast]
      have hs : ((A ++ (x :: (M' ++ [y])) ++ B).set A.length y).set (A.length + M'.length + 1) x = (A ++ [y]) ++ M' ++ (x :: B) := by
        rw [List.append_assoc, List.set_append_right _ _ (by omega), Nat.sub_self, List.cons_append, List.set_cons_zero, List.set_append_right _ _ (by omega), show A.length + M'.length + 1 - A.length = M'.length + 1 by omega, List.set_cons_succ, List.append_assoc, List.set_append_right _ _ (by omega), Nat.sub_self]
        simp
      rw [hs]
      congr 1
      · rw [List.length_append]; simp; unfold wrap64; omega
      · rw [List.length_append]; simp; unfold wrap64; omega
theorem rev_vals (l : List SlV) (hl : l.length ≤ 9223372036854775807) : Ev (fun k => revV.f k l) l.reverse := by
  have h := rev_vals_from l.length [] l [] rfl (by simpa using hl)
  simp only [List.nil_append, List.append_nil, List.length_nil] at h
  refine Ev.congr (fun k => ?_) h
  unfold revV.f
  congr 1
  unfold wrap64
  omega
/-- slices.Reverse at rows of rows -/
theorem rev_calls (v : Value) (xs : List (List F.S29)) (w0 w : World) (hB : Below w0.heap.size w0 w) (h : Kd.S (Kd.slice 29 F.k29) 24 w w0.heap.size (fun _ => True) v xs) :
    Calls Tryd.prog 54 #[v] w fun e w' => e = .returned (.tuple #[]) ∧ Kd.S (Kd.slice 29 F.k29) 24 w' w0.heap.size (fun _ => True) v xs.reverse ∧ Below w0.heap.size w0 w' := by
  obtain ⟨vals, f, hv, h0, hi⟩ := S_vals h
  have hl : vals.length ≤ 9223372036854775807 := by
    obtain ⟨A, c, _, _, hr⟩ := Kd.R_reads hv
    exact hr.2.1
  obtain ⟨k, hk⟩ := (rev_vals vals hl).rounds
  refine (revV.calls k (fun k => some k = v.ownBlock) v vals vals.reverse w0 w hB hv hk).mono ?_
  rintro e w' ⟨rfl, hr, hb, hkept⟩
  exact ⟨rfl, S_of_vals (Kd.R_tight rfl hr) (fun _ _ => trivial) ((hi.move (fun k hk hlt => hkept.2 k hlt (fun e => hk.2 e))).reverse), hb⟩
end Go.Proofs.YtopacnaiedlaaaaDoor
end
