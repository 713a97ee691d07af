-- JOINED BY A PROGRAM OF THIS PLACE (wip/tools/pack.py) out of: TSplitP TSplitQ
import Derived.Test.YtopacnaiedlaaaaDoorL17
import Derived.Test.YtopacnaiedlaaaaDoorL18
section
/-
  tile.split with the two function values of tile.PathNodes: its walk; the loop is written by wip/tools/gen_tile.py out of the print of the same body with plain calls in their place.
-/
namespace Go.Proofs.YtopacnaiedlaaaaDoor.F
open Go.RowKit Go.Proofs.YtopacnaiedlaaaaDoorW.PrintWords Go.Proofs.YtopacnaiedlaaaaDoorW.PrintLast Go.Proofs.YtopacnaiedlaaaaDoorW.PrintMore Go.Proofs.YtopacnaiedlaaaaDoor
attribute [local go_sem] max2_int min2_int max_two min_two max_three min_three max_four min_four   -- for this text's walks alone
set_option linter.unusedVariables false
set_option linter.unusedSimpArgs false
theorem infoP24 : (Tryd.prog.info? 24).map (fun i => (i.zero, i.size, i.bytes)) = some (some (.slice none 0 0), 1, 24) := by kernel_rfl
def onP.f (lo hi m : Int) : Option Bool := some (decide (1 < wrap64 (hi - lo)))
def leftP.f (k m : Int) : Option Bool := some (decide (m < k))
set_option maxRecDepth 100000 in
theorem onP.calls (lo hi m : Int) (r : Bool) (b : Nat) (w : World) (hc : w.cell? ⟨b, 0, none⟩ = some (.int .i64 m)) (h : onP.f lo hi m = some r) :
    Calls Tryd.prog 32 #[.int .i64 lo, .int .i64 hi] w fun e w' => e = .returned (.bool r) ∧ w' = w := by
  obtain rfl := Option.some.inj h
  clear h
  go_enter Tryd.func32, Tryd.ntmps32
  go_wp2
  go_ret
  exact ⟨by first | rfl | (simp [*]; done), rfl⟩
set_option maxRecDepth 100000 in
theorem leftP.calls (k m : Int) (r : Bool) (b : Nat) (w : World) (hc : w.cell? ⟨b, 0, none⟩ = some (.int .i64 m)) (h : leftP.f k m = some r) :
    Calls Tryd.prog 33 #[.int .i64 k, .pointer (some ⟨b, 0, none⟩)] w fun e w' => e = .returned (.bool r) ∧ w' = w := by
  obtain rfl := Option.some.inj h
  clear h
  go_enter Tryd.func33, Tryd.ntmps33
  go_wp2
  go_ret
  exact ⟨by first | rfl | (simp [*]; done), rfl⟩
/-! ### splitP: function 31 -/
def splitP.l0 : Nat → Int → Int → Int → List (List (S29)) → Option ((List (List (S29))) × Int × Int)
  | 0, _, _, _, _ => none
  | k + 1, x2, x9, x10, x11 => (onP.f x9 x10 x2).bind fun t109 => (if t109 = true then ((tile_cut.f x9 x10).bind fun t110 => ((leftP.f t110 x2).bind fun t111 => (if t111 = true then ((tile_Cover.f k t110 x10).bind fun bt112 => (if x11.length < 5864062014805 then (splitP.l0 k x2 x9 t110 (x11 ++ [bt112.1])) else (none))) else ((tile_Cover.f k x9 t110).bind fun bt119 => (if x11.length < 5864062014805 then (splitP.l0 k x2 t110 x10 (x11 ++ [bt119.1])) else (none)))))) else (some (x11, x9, x10)))
def splitP.f (k : Nat) (a0 : Int) (a1 : Int) (a2 : Int) : Option ((List (List (S29))) × Int × Int) := splitP.l0 k a2 0 a0 ([] : List (List (S29)))
set_option maxHeartbeats 8000000 in
set_option maxRecDepth 100000 in
theorem splitP.calls (k : Nat) (a0 : Int) (a1 : Int) (a2 : Int) (r1 : List (List (S29))) (r2 : Int) (r3 : Int) (b : Nat) (w : World) (hcell : w.cell? ⟨b, 0, none⟩ = some (.int .i64 a2)) (h : splitP.f k a0 a1 a2 = some (r1, r2, r3)) :
    Calls Tryd.prog 31 #[.int .i64 a0, .func (.func 32) #[] #[], .func (.func 33) #[] #[.pointer (some ⟨b, 0, none⟩)]] w fun e w' => ∃ v0_ : Value, e = .returned (.tuple #[v0_, .int .i64 r2, .int .i64 r3]) ∧ Kd.S (Kd.slice 29 k29) 24 w' w.heap.size (fun _ => True) v0_ r1.reverse ∧ Below w.heap.size w w' := by
  have HCELL := Aside0.mk hcell
  clear hcell
  have HB := Aside0.mk (Below.refl w.heap.size w)
  have H : (splitP.l0 k a2 0 a0 ([] : List (List (S29)))) = some (r1, r2, r3) := h
  clear h
  have H' := Aside0.mk H
  clear H
  go_enter Tryd.func31, Tryd.ntmps31
  go_wp2
  go_loopg [9, 10, 11] k (fun kq v9 v10 v11 w' => ∃ (x9_1 : Int) (x10_1 : Int) (x11_1 : List (List (S29))), v9 = .int .i64 x9_1 ∧ v10 = .int .i64 x10_1 ∧ Aside0 (splitP.l0 kq a2 x9_1 x10_1 x11_1 = some (r1, r2, r3)) ∧ Aside0 (kq ≤ k) ∧ Aside0 (Kd.S (Kd.slice 29 k29) 24 w' w.heap.size (fun _ => True) v11 x11_1) ∧ Aside0 (Below w.heap.size w w'))
  case atStart => exact ⟨(0), (a0), (([] : List (List (S29)))), (by first | rfl | (simp; done) | (simp [*]; done)), (by first | rfl | (simp; done) | (simp [*]; done)), H', ⟨Nat.le_refl _⟩, ⟨by first | exact Kd.S_nil _ _ _ _ _ | exact Kd.N_nil _ _ _ _ _ | exact Kd.V_nil _ _ _ _ _ | exact Kd.Q_nil _ _ _ _ _ | exact Kd.R_nil _ _ _ _ _⟩, ⟨by repeat (first | (with_reducible first | exact HB.out | apply below_alloc | apply pw_below_drewN | apply below_drew1) | exact HB.out)⟩⟩
  case round =>
    clear H'
    try clear p2
    try clear c3
    obtain ⟨x9_1, x10_1, x11_1, rfl, rfl, HA, HK1, HO_11, HB⟩ := hrel
    cases gk with
    | zero => exact absurd HA.out (by simp [splitP.l0])
    | succ k1 =>
      have H := HA.out
      clear HA
      simp only [splitP.l0] at H
      replace H := Option.bind_eq_some_iff.mp H
      obtain ⟨t109, A40, H⟩ := H
      replace H : (if t109 = true then ((tile_cut.f x9_1 x10_1).bind fun t110 => ((leftP.f t110 a2).bind fun t111 => (if t111 = true then ((tile_Cover.f k1 t110 x10_1).bind fun bt112 => (if x11_1.length < 5864062014805 then (splitP.l0 k1 a2 x9_1 t110 (x11_1 ++ [bt112.1])) else (none))) else ((tile_Cover.f k1 x9_1 t110).bind fun bt119 => (if x11_1.length < 5864062014805 then (splitP.l0 k1 a2 t110 x10_1 (x11_1 ++ [bt119.1])) else (none)))))) else (some (x11_1, x9_1, x10_1))) = some (r1, r2, r3) := H
      have A4 := Aside0.mk A40
      clear A40
      by_cases c5 : t109 = true
      · subst c5
        have H1 : ((tile_cut.f x9_1 x10_1).bind fun t110 => ((leftP.f t110 a2).bind fun t111 => (if t111 = true then ((tile_Cover.f k1 t110 x10_1).bind fun bt112 => (if x11_1.length < 5864062014805 then (splitP.l0 k1 a2 x9_1 t110 (x11_1 ++ [bt112.1])) else (none))) else ((tile_Cover.f k1 x9_1 t110).bind fun bt119 => (if x11_1.length < 5864062014805 then (splitP.l0 k1 a2 t110 x10_1 (x11_1 ++ [bt119.1])) else (none)))))) = some (r1, r2, r3) := by rw [if_pos rfl] at H; exact H
        clear H
        have H := H1
        clear H1
        replace H := Option.bind_eq_some_iff.mp H
        obtain ⟨t110, A60, H⟩ := H
        replace H : ((leftP.f t110 a2).bind fun t111 => (if t111 = true then ((tile_Cover.f k1 t110 x10_1).bind fun bt112 => (if x11_1.length < 5864062014805 then (splitP.l0 k1 a2 x9_1 t110 (x11_1 ++ [bt112.1])) else (none))) else ((tile_Cover.f k1 x9_1 t110).bind fun bt119 => (if x11_1.length < 5864062014805 then (splitP.l0 k1 a2 t110 x10_1 (x11_1 ++ [bt119.1])) else (none))))) = some (r1, r2, r3) := H
        have A6 := Aside0.mk A60
        clear A60
        replace H := Option.bind_eq_some_iff.mp H
        obtain ⟨t111, A70, H⟩ := H
        replace H : (if t111 = true then ((tile_Cover.f k1 t110 x10_1).bind fun bt112 => (if x11_1.length < 5864062014805 then (splitP.l0 k1 a2 x9_1 t110 (x11_1 ++ [bt112.1])) else (none))) else ((tile_Cover.f k1 x9_1 t110).bind fun bt119 => (if x11_1.length < 5864062014805 then (splitP.l0 k1 a2 t110 x10_1 (x11_1 ++ [bt119.1])) else (none)))) = some (r1, r2, r3) := H
        have A7 := Aside0.mk A70
        clear A70
        by_cases c8 : t111 = true
        · subst c8
          have H1 : ((tile_Cover.f k1 t110 x10_1).bind fun bt112 => (if x11_1.length < 5864062014805 then (splitP.l0 k1 a2 x9_1 t110 (x11_1 ++ [bt112.1])) else (none))) = some (r1, r2, r3) := by rw [if_pos rfl] at H; exact H
          clear H
          have H := H1
          clear H1
          replace H := Option.bind_eq_some_iff.mp H
          obtain ⟨⟨t112, t113⟩, A90, H⟩ := H
          replace H : (if x11_1.length < 5864062014805 then (splitP.l0 k1 a2 x9_1 t110 (x11_1 ++ [t112])) else (none)) = some (r1, r2, r3) := H
          have A9 := Aside0.mk A90
          clear A90
          by_cases c10 : x11_1.length < 5864062014805
          · rw [if_pos c10] at H
            have LMc10 := Aside0.mk c10
            clear c10
            obtain ⟨y116, hy116⟩ : ∃ y_ : List (List (S29)), y_ = (x11_1 ++ [t112]) := ⟨_, rfl⟩
            replace H : (splitP.l0 k1 a2 x9_1 t110 y116) = some (r1, r2, r3) := by first | (rw [hy116]; with_reducible exact H) | (have H2_ := (Option.bind_some _ _).symm.trans H; rw [hy116]; with_reducible exact H2_) | (have H2_ := (Option.bind_some _ _).symm.trans H; with_reducible exact H2_) | with_reducible exact H | (rw [hy116]; exact H) | exact H
            have Ny116 := Aside0.mk hy116
            clear hy116
            have H' := Aside0.mk H
            clear H
            go_wp2_with (first | (go_at_call 32; (with_reducible refine (onP.calls x9_1 x10_1 a2 true b _ (pw_cell_below (by repeat (first | (with_reducible first | exact HB.out | apply below_alloc | apply pw_below_drewN | apply below_drew1) | exact HB.out)) HCELL.out) A4.out).mono ?_); rintro e w' ⟨rfl, rfl⟩) | ((with_reducible refine gate_callee (f := 53) rfl ?_); refine goesL_ (some 24) rfl rfl Tryd.func53 (by kernel_rfl) rfl #[.int .i64 x9_1, .int .i64 x10_1] rfl (by (try simp only [List.map_toArray, List.map_cons, List.map_nil]); first | done | rfl | (simp only [List.length_drop, List.length_take]; rfl)) ?_; (with_reducible refine (tile_cut.calls x9_1 x10_1 t110 _ A6.out).mono ?_); rintro e w11 ⟨rfl, hb⟩; refine ⟨_, rfl, ?_⟩; have n0_ := Aside0.mk (Kd.S_below (by (with_reducible repeat (first | apply Kd.S_alloc | apply Kd.S_drewN | apply Kd.S_drew)); exact HO_11.out) hb); have n1_ := Aside0.mk (below_step (by repeat (first | (with_reducible first | exact HB.out | apply below_alloc | apply pw_below_drewN | apply below_drew1) | exact HB.out)) hb); clear HO_11; clear HB; have HO_11 := n0_; have HB := n1_; clear n0_ n1_; (try clear hb); (try clear hb2); (try clear hk); (try clear hi)) | (go_at_call 33; (with_reducible refine (leftP.calls t110 a2 true b _ (pw_cell_below (by repeat (first | (with_reducible first | exact HB.out | apply below_alloc | apply pw_below_drewN | apply below_drew1) | exact HB.out)) HCELL.out) A7.out).mono ?_); rintro e w' ⟨rfl, rfl⟩) | ((with_reducible refine gate_callee (f := 13) rfl ?_); refine goesL_ (some 37) rfl rfl Tryd.func13 (by kernel_rfl) rfl #[.int .i64 t110, .int .i64 x10_1] rfl (by (try simp only [List.map_toArray, List.map_cons, List.map_nil]); first | done | rfl | (simp only [List.length_drop, List.length_take]; rfl)) ?_; (with_reducible refine (tile_Cover.calls k1 t110 x10_1 t112 t113 _ A9.out).mono ?_); rintro e w12 ⟨v114, rfl, ho0, hb⟩; refine ⟨_, rfl, ?_⟩; have n0_ := Aside0.mk (Kd.S_elder' (by (with_reducible repeat (first | apply Kd.S_alloc | apply Kd.S_drewN | apply Kd.S_drew)); exact HO_11.out) (Kd.R_base ho0) hb); have n1_ := Aside0.mk (Kd.R_lower ho0 (below_size (by repeat (first | (with_reducible first | exact HB.out | apply below_alloc | apply pw_below_drewN | apply below_drew1) | exact HB.out)))); have n2_ := Aside0.mk (below_step (by repeat (first | (with_reducible first | exact HB.out | apply below_alloc | apply pw_below_drewN | apply below_drew1) | exact HB.out)) hb); clear HO_11; clear HB; have HO_11 := n0_; have HO115 := n1_; have HB := n2_; clear n0_ n1_ n2_; (try clear hb); (try clear hb2); (try clear hk); (try clear hi); (try clear ho0); obtain ⟨Ao14, co14, eo14⟩ := Kd.R_slice HO115.out; subst eo14) | ((with_reducible refine gate_builtin (b := .append) (xs := #[.tmp 40, .tmp 42]) rfl ?_); at_builtin; refine Kd.S_append (Kd.slice 29 k29) (w0 := w) w.heap.size rfl (.tmp 40) (.tmp 42) 38 24 (.slice none 0 0) 24 rfl Tryd.underlying38 infoP24 rfl (by decide) (by omega) u11 x11_1 t112 [.slice Ao14 t112.length co14] (fun _ => True) (fun k_ => some k_ = (.slice Ao14 t112.length co14 : Value).ownBlock) rfl rfl ?aP (fun k_ hk_ => ((Kd.R_mono (ok' := fun k_ => ((fun _ => True)) k_ ∧ some k_ ≠ (u11 : Value).ownBlock) (Kd.R_apart' (HO115.out) (Kd.S_typed HO_11.out) (by decide)) (fun k_ hk => ⟨trivial, hk.2⟩))).1 k_ hk_.symm) ?aF ?aO ?aB ?aS ?aL ?_; (case aP => exact Kd.M_row (Kd.R_mono (Kd.R_tight rfl (Kd.R_mono (ok' := fun k_ => ((fun _ => True)) k_ ∧ some k_ ≠ (u11 : Value).ownBlock) (Kd.R_apart' (HO115.out) (Kd.S_typed HO_11.out) (by decide)) (fun k_ hk => ⟨trivial, hk.2⟩))) (fun _ h_ => h_))); (case aB => exact (by repeat (first | (with_reducible first | exact HB.out | apply below_alloc | apply pw_below_drewN | apply below_drew1) | exact HB.out))); (case aF => exact (fun _ _ => trivial)); (case aO => exact (by (with_reducible repeat (first | apply Kd.S_alloc | apply Kd.S_drewN | apply Kd.S_drew)); exact Kd.S_mono HO_11.out (fun k_ hk => ⟨trivial, fun e_ => hk.2 e_⟩))); (case aS => exact (below_size (by repeat (first | (with_reducible first | exact HB.out | apply below_alloc | apply pw_below_drewN | apply below_drew1) | exact HB.out)))); (case aL => have := LMc10.out; omega); intro v117 w13 ho hb hg hat; rw [← Ny116.out] at ho; have n0_ := Aside0.mk (hb); have n1_ := Aside0.mk (ho); clear HB; clear HO_11; clear HO115; have HB := n0_; have HO118 := n1_; clear n0_ n1_; clear ho hb hg hat))
            go_roundg k1
            case measure => have := HK1.out; omega
            case rel => exact ⟨(x9_1), (t110), (y116), (by first | rfl | (simp; done) | (simp [*]; done)), (by first | rfl | (simp; done) | (simp [*]; done)), H', ⟨by have := HK1.out; omega⟩, ⟨by (with_reducible repeat (first | apply Kd.S_alloc | apply Kd.S_drewN | apply Kd.S_drew)); exact HO118.out⟩, ⟨by repeat (first | (with_reducible first | exact HB.out | apply below_alloc | apply pw_below_drewN | apply below_drew1) | exact HB.out)⟩⟩
          · rw [if_neg c10] at H
            exact absurd H (by simp)
        · replace c8 := Bool.eq_false_iff.mpr c8
          subst c8
          have H1 : ((tile_Cover.f k1 x9_1 t110).bind fun bt119 => (if x11_1.length < 5864062014805 then (splitP.l0 k1 a2 t110 x10_1 (x11_1 ++ [bt119.1])) else (none))) = some (r1, r2, r3) := by rw [if_neg (show ¬ (false = true) by decide)] at H; exact H
          clear H
          have H := H1
          clear H1
          replace H := Option.bind_eq_some_iff.mp H
          obtain ⟨⟨t119, t120⟩, A150, H⟩ := H
          replace H : (if x11_1.length < 5864062014805 then (splitP.l0 k1 a2 t110 x10_1 (x11_1 ++ [t119])) else (none)) = some (r1, r2, r3) := H
          have A15 := Aside0.mk A150
          clear A150
          by_cases c16 : x11_1.length < 5864062014805
          · rw [if_pos c16] at H
            have LMc16 := Aside0.mk c16
            clear c16
            obtain ⟨y123, hy123⟩ : ∃ y_ : List (List (S29)), y_ = (x11_1 ++ [t119]) := ⟨_, rfl⟩
            replace H : (splitP.l0 k1 a2 t110 x10_1 y123) = some (r1, r2, r3) := by first | (rw [hy123]; with_reducible exact H) | (have H2_ := (Option.bind_some _ _).symm.trans H; rw [hy123]; with_reducible exact H2_) | (have H2_ := (Option.bind_some _ _).symm.trans H; with_reducible exact H2_) | with_reducible exact H | (rw [hy123]; exact H) | exact H
            have Ny123 := Aside0.mk hy123
            clear hy123
            have H' := Aside0.mk H
            clear H
            go_wp2_with (first | (go_at_call 32; (with_reducible refine (onP.calls x9_1 x10_1 a2 true b _ (pw_cell_below (by repeat (first | (with_reducible first | exact HB.out | apply below_alloc | apply pw_below_drewN | apply below_drew1) | exact HB.out)) HCELL.out) A4.out).mono ?_); rintro e w' ⟨rfl, rfl⟩) | ((with_reducible refine gate_callee (f := 53) rfl ?_); refine goesL_ (some 24) rfl rfl Tryd.func53 (by kernel_rfl) rfl #[.int .i64 x9_1, .int .i64 x10_1] rfl (by (try simp only [List.map_toArray, List.map_cons, List.map_nil]); first | done | rfl | (simp only [List.length_drop, List.length_take]; rfl)) ?_; (with_reducible refine (tile_cut.calls x9_1 x10_1 t110 _ A6.out).mono ?_); rintro e w17 ⟨rfl, hb⟩; refine ⟨_, rfl, ?_⟩; have n0_ := Aside0.mk (Kd.S_below (by (with_reducible repeat (first | apply Kd.S_alloc | apply Kd.S_drewN | apply Kd.S_drew)); exact HO_11.out) hb); have n1_ := Aside0.mk (below_step (by repeat (first | (with_reducible first | exact HB.out | apply below_alloc | apply pw_below_drewN | apply below_drew1) | exact HB.out)) hb); clear HO_11; clear HB; have HO_11 := n0_; have HB := n1_; clear n0_ n1_; (try clear hb); (try clear hb2); (try clear hk); (try clear hi)) | (go_at_call 33; (with_reducible refine (leftP.calls t110 a2 false b _ (pw_cell_below (by repeat (first | (with_reducible first | exact HB.out | apply below_alloc | apply pw_below_drewN | apply below_drew1) | exact HB.out)) HCELL.out) A7.out).mono ?_); rintro e w' ⟨rfl, rfl⟩) | ((with_reducible refine gate_callee (f := 13) rfl ?_); refine goesL_ (some 37) rfl rfl Tryd.func13 (by kernel_rfl) rfl #[.int .i64 x9_1, .int .i64 t110] rfl (by (try simp only [List.map_toArray, List.map_cons, List.map_nil]); first | done | rfl | (simp only [List.length_drop, List.length_take]; rfl)) ?_; (with_reducible refine (tile_Cover.calls k1 x9_1 t110 t119 t120 _ A15.out).mono ?_); rintro e w18 ⟨v121, rfl, ho0, hb⟩; refine ⟨_, rfl, ?_⟩; have n0_ := Aside0.mk (Kd.S_elder' (by (with_reducible repeat (first | apply Kd.S_alloc | apply Kd.S_drewN | apply Kd.S_drew)); exact HO_11.out) (Kd.R_base ho0) hb); have n1_ := Aside0.mk (Kd.R_lower ho0 (below_size (by repeat (first | (with_reducible first | exact HB.out | apply below_alloc | apply pw_below_drewN | apply below_drew1) | exact HB.out)))); have n2_ := Aside0.mk (below_step (by repeat (first | (with_reducible first | exact HB.out | apply below_alloc | apply pw_below_drewN | apply below_drew1) | exact HB.out)) hb); clear HO_11; clear HB; have HO_11 := n0_; have HO122 := n1_; have HB := n2_; clear n0_ n1_ n2_; (try clear hb); (try clear hb2); (try clear hk); (try clear hi); (try clear ho0); obtain ⟨Ao20, co20, eo20⟩ := Kd.R_slice HO122.out; subst eo20) | ((with_reducible refine gate_builtin (b := .append) (xs := #[.tmp 40, .tmp 42]) rfl ?_); at_builtin; refine Kd.S_append (Kd.slice 29 k29) (w0 := w) w.heap.size rfl (.tmp 40) (.tmp 42) 38 24 (.slice none 0 0) 24 rfl Tryd.underlying38 infoP24 rfl (by decide) (by omega) u11 x11_1 t119 [.slice Ao20 t119.length co20] (fun _ => True) (fun k_ => some k_ = (.slice Ao20 t119.length co20 : Value).ownBlock) rfl rfl ?aP (fun k_ hk_ => ((Kd.R_mono (ok' := fun k_ => ((fun _ => True)) k_ ∧ some k_ ≠ (u11 : Value).ownBlock) (Kd.R_apart' (HO122.out) (Kd.S_typed HO_11.out) (by decide)) (fun k_ hk => ⟨trivial, hk.2⟩))).1 k_ hk_.symm) ?aF ?aO ?aB ?aS ?aL ?_; (case aP => exact Kd.M_row (Kd.R_mono (Kd.R_tight rfl (Kd.R_mono (ok' := fun k_ => ((fun _ => True)) k_ ∧ some k_ ≠ (u11 : Value).ownBlock) (Kd.R_apart' (HO122.out) (Kd.S_typed HO_11.out) (by decide)) (fun k_ hk => ⟨trivial, hk.2⟩))) (fun _ h_ => h_))); (case aB => exact (by repeat (first | (with_reducible first | exact HB.out | apply below_alloc | apply pw_below_drewN | apply below_drew1) | exact HB.out))); (case aF => exact (fun _ _ => trivial)); (case aO => exact (by (with_reducible repeat (first | apply Kd.S_alloc | apply Kd.S_drewN | apply Kd.S_drew)); exact Kd.S_mono HO_11.out (fun k_ hk => ⟨trivial, fun e_ => hk.2 e_⟩))); (case aS => exact (below_size (by repeat (first | (with_reducible first | exact HB.out | apply below_alloc | apply pw_below_drewN | apply below_drew1) | exact HB.out)))); (case aL => have := LMc16.out; omega); intro v124 w19 ho hb hg hat; rw [← Ny123.out] at ho; have n0_ := Aside0.mk (hb); have n1_ := Aside0.mk (ho); clear HB; clear HO_11; clear HO122; have HB := n0_; have HO125 := n1_; clear n0_ n1_; clear ho hb hg hat))
            go_roundg k1
            case measure => have := HK1.out; omega
            case rel => exact ⟨(t110), (x10_1), (y123), (by first | rfl | (simp; done) | (simp [*]; done)), (by first | rfl | (simp; done) | (simp [*]; done)), H', ⟨by have := HK1.out; omega⟩, ⟨by (with_reducible repeat (first | apply Kd.S_alloc | apply Kd.S_drewN | apply Kd.S_drew)); exact HO125.out⟩, ⟨by repeat (first | (with_reducible first | exact HB.out | apply below_alloc | apply pw_below_drewN | apply below_drew1) | exact HB.out)⟩⟩
          · rw [if_neg c16] at H
            exact absurd H (by simp)
      · replace c5 := Bool.eq_false_iff.mpr c5
        subst c5
        have H1 : (some (x11_1, x9_1, x10_1)) = some (r1, r2, r3) := by rw [if_neg (show ¬ (false = true) by decide)] at H; exact H
        clear H
        have H := H1
        clear H1
        simp only [Option.some.injEq, Prod.mk.injEq] at H
        obtain ⟨rfl, rfl, rfl⟩ := H
        go_wp2_with (first | (go_at_call 32; (with_reducible refine (onP.calls x9_1 x10_1 a2 false b _ (pw_cell_below (by repeat (first | (with_reducible first | exact HB.out | apply below_alloc | apply pw_below_drewN | apply below_drew1) | exact HB.out)) HCELL.out) A4.out).mono ?_); rintro e w' ⟨rfl, rfl⟩) | (go_at_call 54; refine (rev_calls _ x11_1 w _ (by repeat (first | (with_reducible first | exact HB.out | apply below_alloc | apply pw_below_drewN | apply below_drew1) | exact HB.out)) (by (with_reducible repeat (first | apply Kd.S_alloc | apply Kd.S_drewN | apply Kd.S_drew)); exact HO_11.out)).mono ?_; rintro e w2 ⟨rfl, ho2, hb2⟩; have HO2 := Aside0.mk ho2; have HB2 := Aside0.mk hb2; clear ho2 hb2 HB HO_11))
        go_ret3
        exact ⟨_, rfl, HO2.out, HB2.out⟩
end Go.Proofs.YtopacnaiedlaaaaDoor.F
end
section
/-
  tile.split with the two function values of tile.ProofNodes: its walk; the loop is written by wip/tools/gen_tile.py out of the print of the same body with plain calls in their place.
-/
namespace Go.Proofs.YtopacnaiedlaaaaDoor.F
open Go.RowKit Go.Proofs.YtopacnaiedlaaaaDoorW.PrintWords Go.Proofs.YtopacnaiedlaaaaDoorW.PrintLast Go.Proofs.YtopacnaiedlaaaaDoorW.PrintMore Go.Proofs.YtopacnaiedlaaaaDoor
attribute [local go_sem] max2_int min2_int max_two min_two max_three min_three max_four min_four   -- for this text's walks alone
set_option linter.unusedVariables false
set_option linter.unusedSimpArgs false
theorem infoQ24 : (Tryd.prog.info? 24).map (fun i => (i.zero, i.size, i.bytes)) = some (some (.slice none 0 0), 1, 24) := by kernel_rfl
def onQ.f (lo hi m : Int) : Option Bool := some (decide (m < hi))
def leftQ.f (k m : Int) : Option Bool := some (decide (m ≤ k))
set_option maxRecDepth 100000 in
theorem onQ.calls (lo hi m : Int) (r : Bool) (b : Nat) (w : World) (hc : w.cell? ⟨b, 0, none⟩ = some (.int .i64 m)) (h : onQ.f lo hi m = some r) :
    Calls Tryd.prog 35 #[.int .i64 lo, .int .i64 hi, .pointer (some ⟨b, 0, none⟩)] w fun e w' => e = .returned (.bool r) ∧ w' = w := by
  obtain rfl := Option.some.inj h
  clear h
  go_enter Tryd.func35, Tryd.ntmps35
  go_wp2
  go_ret
  exact ⟨by first | rfl | (simp [*]; done), rfl⟩
set_option maxRecDepth 100000 in
theorem leftQ.calls (k m : Int) (r : Bool) (b : Nat) (w : World) (hc : w.cell? ⟨b, 0, none⟩ = some (.int .i64 m)) (h : leftQ.f k m = some r) :
    Calls Tryd.prog 36 #[.int .i64 k, .pointer (some ⟨b, 0, none⟩)] w fun e w' => e = .returned (.bool r) ∧ w' = w := by
  obtain rfl := Option.some.inj h
  clear h
  go_enter Tryd.func36, Tryd.ntmps36
  go_wp2
  go_ret
  exact ⟨by first | rfl | (simp [*]; done), rfl⟩
/-! ### splitQ: function 31 -/
def splitQ.l0 : Nat → Int → Int → Int → List (List (S29)) → Option ((List (List (S29))) × Int × Int)
  | 0, _, _, _, _ => none
  | k + 1, x2, x9, x10, x11 => (onQ.f x9 x10 x2).bind fun t109 => (if t109 = true then ((tile_cut.f x9 x10).bind fun t110 => ((leftQ.f t110 x2).bind fun t111 => (if t111 = true then ((tile_Cover.f k t110 x10).bind fun bt112 => (if x11.length < 5864062014805 then (splitQ.l0 k x2 x9 t110 (x11 ++ [bt112.1])) else (none))) else ((tile_Cover.f k x9 t110).bind fun bt119 => (if x11.length < 5864062014805 then (splitQ.l0 k x2 t110 x10 (x11 ++ [bt119.1])) else (none)))))) else (some (x11, x9, x10)))
def splitQ.f (k : Nat) (a0 : Int) (a1 : Int) (a2 : Int) : Option ((List (List (S29))) × Int × Int) := splitQ.l0 k a2 0 a0 ([] : List (List (S29)))
set_option maxHeartbeats 8000000 in
set_option maxRecDepth 100000 in
theorem splitQ.calls (k : Nat) (a0 : Int) (a1 : Int) (a2 : Int) (r1 : List (List (S29))) (r2 : Int) (r3 : Int) (b : Nat) (w : World) (hcell : w.cell? ⟨b, 0, none⟩ = some (.int .i64 a2)) (h : splitQ.f k a0 a1 a2 = some (r1, r2, r3)) :
    Calls Tryd.prog 31 #[.int .i64 a0, .func (.func 35) #[] #[.pointer (some ⟨b, 0, none⟩)], .func (.func 36) #[] #[.pointer (some ⟨b, 0, none⟩)]] w fun e w' => ∃ v0_ : Value, e = .returned (.tuple #[v0_, .int .i64 r2, .int .i64 r3]) ∧ Kd.S (Kd.slice 29 k29) 24 w' w.heap.size (fun _ => True) v0_ r1.reverse ∧ Below w.heap.size w w' := by
  have HCELL := Aside0.mk hcell
  clear hcell
  have HB := Aside0.mk (Below.refl w.heap.size w)
  have H : (splitQ.l0 k a2 0 a0 ([] : List (List (S29)))) = some (r1, r2, r3) := h
  clear h
  have H' := Aside0.mk H
  clear H
  go_enter Tryd.func31, Tryd.ntmps31
  go_wp2
  go_loopg [9, 10, 11] k (fun kq v9 v10 v11 w' => ∃ (x9_1 : Int) (x10_1 : Int) (x11_1 : List (List (S29))), v9 = .int .i64 x9_1 ∧ v10 = .int .i64 x10_1 ∧ Aside0 (splitQ.l0 kq a2 x9_1 x10_1 x11_1 = some (r1, r2, r3)) ∧ Aside0 (kq ≤ k) ∧ Aside0 (Kd.S (Kd.slice 29 k29) 24 w' w.heap.size (fun _ => True) v11 x11_1) ∧ Aside0 (Below w.heap.size w w'))
  case atStart => exact ⟨(0), (a0), (([] : List (List (S29)))), (by first | rfl | (simp; done) | (simp [*]; done)), (by first | rfl | (simp; done) | (simp [*]; done)), H', ⟨Nat.le_refl _⟩, ⟨by first | exact Kd.S_nil _ _ _ _ _ | exact Kd.N_nil _ _ _ _ _ | exact Kd.V_nil _ _ _ _ _ | exact Kd.Q_nil _ _ _ _ _ | exact Kd.R_nil _ _ _ _ _⟩, ⟨by repeat (first | (with_reducible first | exact HB.out | apply below_alloc | apply pw_below_drewN | apply below_drew1) | exact HB.out)⟩⟩
  case round =>
    clear H'
    try clear p2
    try clear c3
    obtain ⟨x9_1, x10_1, x11_1, rfl, rfl, HA, HK1, HO_11, HB⟩ := hrel
    cases gk with
    | zero => exact absurd HA.out (by simp [splitQ.l0])
    | succ k1 =>
      have H := HA.out
      clear HA
      simp only [splitQ.l0] at H
      replace H := Option.bind_eq_some_iff.mp H
      obtain ⟨t109, A40, H⟩ := H
      replace H : (if t109 = true then ((tile_cut.f x9_1 x10_1).bind fun t110 => ((leftQ.f t110 a2).bind fun t111 => (if t111 = true then ((tile_Cover.f k1 t110 x10_1).bind fun bt112 => (if x11_1.length < 5864062014805 then (splitQ.l0 k1 a2 x9_1 t110 (x11_1 ++ [bt112.1])) else (none))) else ((tile_Cover.f k1 x9_1 t110).bind fun bt119 => (if x11_1.length < 5864062014805 then (splitQ.l0 k1 a2 t110 x10_1 (x11_1 ++ [bt119.1])) else (none)))))) else (some (x11_1, x9_1, x10_1))) = some (r1, r2, r3) := H
      have A4 := Aside0.mk A40
      clear A40
      by_cases c5 : t109 = true
      · subst c5
        have H1 : ((tile_cut.f x9_1 x10_1).bind fun t110 => ((leftQ.f t110 a2).bind fun t111 => (if t111 = true then ((tile_Cover.f k1 t110 x10_1).bind fun bt112 => (if x11_1.length < 5864062014805 then (splitQ.l0 k1 a2 x9_1 t110 (x11_1 ++ [bt112.1])) else (none))) else ((tile_Cover.f k1 x9_1 t110).bind fun bt119 => (if x11_1.length < 5864062014805 then (splitQ.l0 k1 a2 t110 x10_1 (x11_1 ++ [bt119.1])) else (none)))))) = some (r1, r2, r3) := by rw [if_pos rfl] at H; exact H
        clear H
        have H := H1
        clear H1
        replace H := Option.bind_eq_some_iff.mp H
        obtain ⟨t110, A60, H⟩ := H
        replace H : ((leftQ.f t110 a2).bind fun t111 => (if t111 = true then ((tile_Cover.f k1 t110 x10_1).bind fun bt112 => (if x11_1.length < 5864062014805 then (splitQ.l0 k1 a2 x9_1 t110 (x11_1 ++ [bt112.1])) else (none))) else ((tile_Cover.f k1 x9_1 t110).bind fun bt119 => (if x11_1.length < 5864062014805 then (splitQ.l0 k1 a2 t110 x10_1 (x11_1 ++ [bt119.1])) else (none))))) = some (r1, r2, r3) := H
        have A6 := Aside0.mk A60
        clear A60
        replace H := Option.bind_eq_some_iff.mp H
        obtain ⟨t111, A70, H⟩ := H
        replace H : (if t111 = true then ((tile_Cover.f k1 t110 x10_1).bind fun bt112 => (if x11_1.length < 5864062014805 then (splitQ.l0 k1 a2 x9_1 t110 (x11_1 ++ [bt112.1])) else (none))) else ((tile_Cover.f k1 x9_1 t110).bind fun bt119 => (if x11_1.length < 5864062014805 then (splitQ.l0 k1 a2 t110 x10_1 (x11_1 ++ [bt119.1])) else (none)))) = some (r1, r2, r3) := H
        have A7 := Aside0.mk A70
        clear A70
        by_cases c8 : t111 = true
        · subst c8
          have H1 : ((tile_Cover.f k1 t110 x10_1).bind fun bt112 => (if x11_1.length < 5864062014805 then (splitQ.l0 k1 a2 x9_1 t110 (x11_1 ++ [bt112.1])) else (none))) = some (r1, r2, r3) := by rw [if_pos rfl] at H; exact H
          clear H
          have H := H1
          clear H1
          replace H := Option.bind_eq_some_iff.mp H
          obtain ⟨⟨t112, t113⟩, A90, H⟩ := H
          replace H : (if x11_1.length < 5864062014805 then (splitQ.l0 k1 a2 x9_1 t110 (x11_1 ++ [t112])) else (none)) = some (r1, r2, r3) := H
          have A9 := Aside0.mk A90
          clear A90
          by_cases c10 : x11_1.length < 5864062014805
          · rw [if_pos c10] at H
            have LMc10 := Aside0.mk c10
            clear c10
            obtain ⟨y116, hy116⟩ : ∃ y_ : List (List (S29)), y_ = (x11_1 ++ [t112]) := ⟨_, rfl⟩
            replace H : (splitQ.l0 k1 a2 x9_1 t110 y116) = some (r1, r2, r3) := by first | (rw [hy116]; with_reducible exact H) | (have H2_ := (Option.bind_some _ _).symm.trans H; rw [hy116]; with_reducible exact H2_) | (have H2_ := (Option.bind_some _ _).symm.trans H; with_reducible exact H2_) | with_reducible exact H | (rw [hy116]; exact H) | exact H
            have Ny116 := Aside0.mk hy116
            clear hy116
            have H' := Aside0.mk H
            clear H
            go_wp2_with (first | (go_at_call 35; (with_reducible refine (onQ.calls x9_1 x10_1 a2 true b _ (pw_cell_below (by repeat (first | (with_reducible first | exact HB.out | apply below_alloc | apply pw_below_drewN | apply below_drew1) | exact HB.out)) HCELL.out) A4.out).mono ?_); rintro e w' ⟨rfl, rfl⟩) | ((with_reducible refine gate_callee (f := 53) rfl ?_); refine goesL_ (some 24) rfl rfl Tryd.func53 (by kernel_rfl) rfl #[.int .i64 x9_1, .int .i64 x10_1] rfl (by (try simp only [List.map_toArray, List.map_cons, List.map_nil]); first | done | rfl | (simp only [List.length_drop, List.length_take]; rfl)) ?_; (with_reducible refine (tile_cut.calls x9_1 x10_1 t110 _ A6.out).mono ?_); rintro e w11 ⟨rfl, hb⟩; refine ⟨_, rfl, ?_⟩; have n0_ := Aside0.mk (Kd.S_below (by (with_reducible repeat (first | apply Kd.S_alloc | apply Kd.S_drewN | apply Kd.S_drew)); exact HO_11.out) hb); have n1_ := Aside0.mk (below_step (by repeat (first | (with_reducible first | exact HB.out | apply below_alloc | apply pw_below_drewN | apply below_drew1) | exact HB.out)) hb); clear HO_11; clear HB; have HO_11 := n0_; have HB := n1_; clear n0_ n1_; (try clear hb); (try clear hb2); (try clear hk); (try clear hi)) | (go_at_call 36; (with_reducible refine (leftQ.calls t110 a2 true b _ (pw_cell_below (by repeat (first | (with_reducible first | exact HB.out | apply below_alloc | apply pw_below_drewN | apply below_drew1) | exact HB.out)) HCELL.out) A7.out).mono ?_); rintro e w' ⟨rfl, rfl⟩) | ((with_reducible refine gate_callee (f := 13) rfl ?_); refine goesL_ (some 37) rfl rfl Tryd.func13 (by kernel_rfl) rfl #[.int .i64 t110, .int .i64 x10_1] rfl (by (try simp only [List.map_toArray, List.map_cons, List.map_nil]); first | done | rfl | (simp only [List.length_drop, List.length_take]; rfl)) ?_; (with_reducible refine (tile_Cover.calls k1 t110 x10_1 t112 t113 _ A9.out).mono ?_); rintro e w12 ⟨v114, rfl, ho0, hb⟩; refine ⟨_, rfl, ?_⟩; have n0_ := Aside0.mk (Kd.S_elder' (by (with_reducible repeat (first | apply Kd.S_alloc | apply Kd.S_drewN | apply Kd.S_drew)); exact HO_11.out) (Kd.R_base ho0) hb); have n1_ := Aside0.mk (Kd.R_lower ho0 (below_size (by repeat (first | (with_reducible first | exact HB.out | apply below_alloc | apply pw_below_drewN | apply below_drew1) | exact HB.out)))); have n2_ := Aside0.mk (below_step (by repeat (first | (with_reducible first | exact HB.out | apply below_alloc | apply pw_below_drewN | apply below_drew1) | exact HB.out)) hb); clear HO_11; clear HB; have HO_11 := n0_; have HO115 := n1_; have HB := n2_; clear n0_ n1_ n2_; (try clear hb); (try clear hb2); (try clear hk); (try clear hi); (try clear ho0); obtain ⟨Ao14, co14, eo14⟩ := Kd.R_slice HO115.out; subst eo14) | ((with_reducible refine gate_builtin (b := .append) (xs := #[.tmp 40, .tmp 42]) rfl ?_); at_builtin; refine Kd.S_append (Kd.slice 29 k29) (w0 := w) w.heap.size rfl (.tmp 40) (.tmp 42) 38 24 (.slice none 0 0) 24 rfl Tryd.underlying38 infoQ24 rfl (by decide) (by omega) u11 x11_1 t112 [.slice Ao14 t112.length co14] (fun _ => True) (fun k_ => some k_ = (.slice Ao14 t112.length co14 : Value).ownBlock) rfl rfl ?aP (fun k_ hk_ => ((Kd.R_mono (ok' := fun k_ => ((fun _ => True)) k_ ∧ some k_ ≠ (u11 : Value).ownBlock) (Kd.R_apart' (HO115.out) (Kd.S_typed HO_11.out) (by decide)) (fun k_ hk => ⟨trivial, hk.2⟩))).1 k_ hk_.symm) ?aF ?aO ?aB ?aS ?aL ?_; (case aP => exact Kd.M_row (Kd.R_mono (Kd.R_tight rfl (Kd.R_mono (ok' := fun k_ => ((fun _ => True)) k_ ∧ some k_ ≠ (u11 : Value).ownBlock) (Kd.R_apart' (HO115.out) (Kd.S_typed HO_11.out) (by decide)) (fun k_ hk => ⟨trivial, hk.2⟩))) (fun _ h_ => h_))); (case aB => exact (by repeat (first | (with_reducible first | exact HB.out | apply below_alloc | apply pw_below_drewN | apply below_drew1) | exact HB.out))); (case aF => exact (fun _ _ => trivial)); (case aO => exact (by (with_reducible repeat (first | apply Kd.S_alloc | apply Kd.S_drewN | apply Kd.S_drew)); exact Kd.S_mono HO_11.out (fun k_ hk => ⟨trivial, fun e_ => hk.2 e_⟩))); (case aS => exact (below_size (by repeat (first | (with_reducible first | exact HB.out | apply below_alloc | apply pw_below_drewN | apply below_drew1) | exact HB.out)))); (case aL => have := LMc10.out; omega); intro v117 w13 ho hb hg hat; rw [← Ny116.out] at ho; have n0_ := Aside0.mk (hb); have n1_ := Aside0.mk (ho); clear HB; clear HO_11; clear HO115; have HB := n0_; have HO118 := n1_; clear n0_ n1_; clear ho hb hg hat))
            go_roundg k1
            case measure => have := HK1.out; omega
            case rel => exact ⟨(x9_1), (t110), (y116), (by first | rfl | (simp; done) | (simp [*]; done)), (by first | rfl | (simp; done) | (simp [*]; done)), H', ⟨by have := HK1.out; omega⟩, ⟨by (with_reducible repeat (first | apply Kd.S_alloc | apply Kd.S_drewN | apply Kd.S_drew)); exact HO118.out⟩, ⟨by repeat (first | (with_reducible first | exact HB.out | apply below_alloc | apply pw_below_drewN | apply below_drew1) | exact HB.out)⟩⟩
          · rw [if_neg c10] at H
            exact absurd H (by simp)
        · replace c8 := Bool.eq_false_iff.mpr c8
          subst c8
          have H1 : ((tile_Cover.f k1 x9_1 t110).bind fun bt119 => (if x11_1.length < 5864062014805 then (splitQ.l0 k1 a2 t110 x10_1 (x11_1 ++ [bt119.1])) else (none))) = some (r1, r2, r3) := by rw [if_neg (show ¬ (false = true) by decide)] at H; exact H
          clear H
          have H := H1
          clear H1
          replace H := Option.bind_eq_some_iff.mp H
          obtain ⟨⟨t119, t120⟩, A150, H⟩ := H
          replace H : (if x11_1.length < 5864062014805 then (splitQ.l0 k1 a2 t110 x10_1 (x11_1 ++ [t119])) else (none)) = some (r1, r2, r3) := H
          have A15 := Aside0.mk A150
          clear A150
          by_cases c16 : x11_1.length < 5864062014805
          · rw [if_pos c16] at H
            have LMc16 := Aside0.mk c16
            clear c16
            obtain ⟨y123, hy123⟩ : ∃ y_ : List (List (S29)), y_ = (x11_1 ++ [t119]) := ⟨_, rfl⟩
            replace H : (splitQ.l0 k1 a2 t110 x10_1 y123) = some (r1, r2, r3) := by first | (rw [hy123]; with_reducible exact H) | (have H2_ := (Option.bind_some _ _).symm.trans H; rw [hy123]; with_reducible exact H2_) | (have H2_ := (Option.bind_some _ _).symm.trans H; with_reducible exact H2_) | with_reducible exact H | (rw [hy123]; exact H) | exact H
            have Ny123 := Aside0.mk hy123
            clear hy123
            have H' := Aside0.mk H
            clear H
            go_wp2_with (first | (go_at_call 35; (with_reducible refine (onQ.calls x9_1 x10_1 a2 true b _ (pw_cell_below (by repeat (first | (with_reducible first | exact HB.out | apply below_alloc | apply pw_below_drewN | apply below_drew1) | exact HB.out)) HCELL.out) A4.out).mono ?_); rintro e w' ⟨rfl, rfl⟩) | ((with_reducible refine gate_callee (f := 53) rfl ?_); refine goesL_ (some 24) rfl rfl Tryd.func53 (by kernel_rfl) rfl #[.int .i64 x9_1, .int .i64 x10_1] rfl (by (try simp only [List.map_toArray, List.map_cons, List.map_nil]); first | done | rfl | (simp only [List.length_drop, List.length_take]; rfl)) ?_; (with_reducible refine (tile_cut.calls x9_1 x10_1 t110 _ A6.out).mono ?_); rintro e w17 ⟨rfl, hb⟩; refine ⟨_, rfl, ?_⟩; have n0_ := Aside0.mk (Kd.S_below (by (with_reducible repeat (first | apply Kd.S_alloc | apply Kd.S_drewN | apply Kd.S_drew)); exact HO_11.out) hb); have n1_ := Aside0.mk (below_step (by repeat (first | (with_reducible first | exact HB.out | apply below_alloc | apply pw_below_drewN | apply below_drew1) | exact HB.out)) hb); clear HO_11; clear HB; have HO_11 := n0_; have HB := n1_; clear n0_ n1_; (try clear hb); (try clear hb2); (try clear hk); (try clear hi)) | (go_at_call 36; (with_reducible refine (leftQ.calls t110 a2 false b _ (pw_cell_below (by repeat (first | (with_reducible first | exact HB.out | apply below_alloc | apply pw_below_drewN | apply below_drew1) | exact HB.out)) HCELL.out) A7.out).mono ?_); rintro e w' ⟨rfl, rfl⟩) | ((with_reducible refine gate_callee (f := 13) rfl ?_); refine goesL_ (some 37) rfl rfl Tryd.func13 (by kernel_rfl) rfl #[.int .i64 x9_1, .int .i64 t110] rfl (by (try simp only [List.map_toArray, List.map_cons, List.map_nil]); first | done | rfl | (simp only [List.length_drop, List.length_take]; rfl)) ?_; (with_reducible refine (tile_Cover.calls k1 x9_1 t110 t119 t120 _ A15.out).mono ?_); rintro e w18 ⟨v121, rfl, ho0, hb⟩; refine ⟨_, rfl, ?_⟩; have n0_ := Aside0.mk (Kd.S_elder' (by (with_reducible repeat (first | apply Kd.S_alloc | apply Kd.S_drewN | apply Kd.S_drew)); exact HO_11.out) (Kd.R_base ho0) hb); have n1_ := Aside0.mk (Kd.R_lower ho0 (below_size (by repeat (first | (with_reducible first | exact HB.out | apply below_alloc | apply pw_below_drewN | apply below_drew1) | exact HB.out)))); have n2_ := Aside0.mk (below_step (by repeat (first | (with_reducible first | exact HB.out | apply below_alloc | apply pw_below_drewN | apply below_drew1) | exact HB.out)) hb); clear HO_11; clear HB; have HO_11 := n0_; have HO122 := n1_; have HB := n2_; clear n0_ n1_ n2_; (try clear hb); (try clear hb2); (try clear hk); (try clear hi); (try clear ho0); obtain ⟨Ao20, co20, eo20⟩ := Kd.R_slice HO122.out; subst eo20) | ((with_reducible refine gate_builtin (b := .append) (xs := #[.tmp 40, .tmp 42]) rfl ?_); at_builtin; refine Kd.S_append (Kd.slice 29 k29) (w0 := w) w.heap.size rfl (.tmp 40) (.tmp 42) 38 24 (.slice none 0 0) 24 rfl Tryd.underlying38 infoQ24 rfl (by decide) (by omega) u11 x11_1 t119 [.slice Ao20 t119.length co20] (fun _ => True) (fun k_ => some k_ = (.slice Ao20 t119.length co20 : Value).ownBlock) rfl rfl ?aP (fun k_ hk_ => ((Kd.R_mono (ok' := fun k_ => ((fun _ => True)) k_ ∧ some k_ ≠ (u11 : Value).ownBlock) (Kd.R_apart' (HO122.out) (Kd.S_typed HO_11.out) (by decide)) (fun k_ hk => ⟨trivial, hk.2⟩))).1 k_ hk_.symm) ?aF ?aO ?aB ?aS ?aL ?_; (case aP => exact Kd.M_row (Kd.R_mono (Kd.R_tight rfl (Kd.R_mono (ok' := fun k_ => ((fun _ => True)) k_ ∧ some k_ ≠ (u11 : Value).ownBlock) (Kd.R_apart' (HO122.out) (Kd.S_typed HO_11.out) (by decide)) (fun k_ hk => ⟨trivial, hk.2⟩))) (fun _ h_ => h_))); (case aB => exact (by repeat (first | (with_reducible first | exact HB.out | apply below_alloc | apply pw_below_drewN | apply below_drew1) | exact HB.out))); (case aF => exact (fun _ _ => trivial)); (case aO => exact (by (with_reducible repeat (first | apply Kd.S_alloc | apply Kd.S_drewN | apply Kd.S_drew)); exact Kd.S_mono HO_11.out (fun k_ hk => ⟨trivial, fun e_ => hk.2 e_⟩))); (case aS => exact (below_size (by repeat (first | (with_reducible first | exact HB.out | apply below_alloc | apply pw_below_drewN | apply below_drew1) | exact HB.out)))); (case aL => have := LMc16.out; omega); intro v124 w19 ho hb hg hat; rw [← Ny123.out] at ho; have n0_ := Aside0.mk (hb); have n1_ := Aside0.mk (ho); clear HB; clear HO_11; clear HO122; have HB := n0_; have HO125 := n1_; clear n0_ n1_; clear ho hb hg hat))
            go_roundg k1
            case measure => have := HK1.out; omega
            case rel => exact ⟨(t110), (x10_1), (y123), (by first | rfl | (simp; done) | (simp [*]; done)), (by first | rfl | (simp; done) | (simp [*]; done)), H', ⟨by have := HK1.out; omega⟩, ⟨by (with_reducible repeat (first | apply Kd.S_alloc | apply Kd.S_drewN | apply Kd.S_drew)); exact HO125.out⟩, ⟨by repeat (first | (with_reducible first | exact HB.out | apply below_alloc | apply pw_below_drewN | apply below_drew1) | exact HB.out)⟩⟩
          · rw [if_neg c16] at H
            exact absurd H (by simp)
      · replace c5 := Bool.eq_false_iff.mpr c5
        subst c5
        have H1 : (some (x11_1, x9_1, x10_1)) = some (r1, r2, r3) := by rw [if_neg (show ¬ (false = true) by decide)] at H; exact H
        clear H
        have H := H1
        clear H1
        simp only [Option.some.injEq, Prod.mk.injEq] at H
        obtain ⟨rfl, rfl, rfl⟩ := H
        go_wp2_with (first | (go_at_call 35; (with_reducible refine (onQ.calls x9_1 x10_1 a2 false b _ (pw_cell_below (by repeat (first | (with_reducible first | exact HB.out | apply below_alloc | apply pw_below_drewN | apply below_drew1) | exact HB.out)) HCELL.out) A4.out).mono ?_); rintro e w' ⟨rfl, rfl⟩) | (go_at_call 54; refine (rev_calls _ x11_1 w _ (by repeat (first | (with_reducible first | exact HB.out | apply below_alloc | apply pw_below_drewN | apply below_drew1) | exact HB.out)) (by (with_reducible repeat (first | apply Kd.S_alloc | apply Kd.S_drewN | apply Kd.S_drew)); exact HO_11.out)).mono ?_; rintro e w2 ⟨rfl, ho2, hb2⟩; have HO2 := Aside0.mk ho2; have HB2 := Aside0.mk hb2; clear ho2 hb2 HB HO_11))
        go_ret3
        exact ⟨_, rfl, HO2.out, HB2.out⟩
end Go.Proofs.YtopacnaiedlaaaaDoor.F
end
