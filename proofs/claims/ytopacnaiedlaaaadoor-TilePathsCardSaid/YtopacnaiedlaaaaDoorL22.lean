-- JOINED BY A PROGRAM OF THIS PLACE (wip/tools/pack.py) out of: TIns TIns2
import Derived.Shelf.Spec.SlicesInsertGrow
import Derived.Test.YtopacnaiedlaaaaDoorL17
section
/-
  slices.Insert at rows of rows, at the row's head, one row: its walk, with room and without; what it leaves, told by the cells.
-/
namespace Go.Proofs.YtopacnaiedlaaaaDoor
open Go.RowKit Go.Lib Go.Proofs.YtopacnaiedlaaaaDoorW.PrintWords Go.Proofs.YtopacnaiedlaaaaDoorW.PrintLast Go.Proofs.YtopacnaiedlaaaaDoorW.PrintMore
set_option linter.unusedVariables false
set_option linter.unusedSimpArgs false
theorem infoP : (Tryd.prog.info? 24).map (fun i => (i.zero, i.size, i.bytes)) = some (some (.slice none 0 0), 1, 24) := by kernel_rfl
theorem sizeP (w : World) : (Go.sizeOf 24).run Tryd.prog w = .ok 1 w := by kernel_rfl
set_option maxHeartbeats 8000000 in
set_option maxRecDepth 100000 in
theorem ins_room (b n c vb i m voff vc off : Nat) (cs vs : List Value) (w : World) (hi : i < n) (hm : 0 < m) (hroom : n + m ≤ c) (hc63 : c ≤ 9223372036854775807) (hvb : vb ≠ b)
    (hcl : cs.length = n) (hvl : vs.length = m)
    (hcs : ∀ j v, cs[j]? = some v → w.cell? ⟨b, off + j, none⟩ = some v) (hsp : ∀ j, j < n + m → (w.cell? ⟨b, off + j, none⟩).isSome = true) (hfz : ∀ j, j < n + m → w.frozen? ⟨b, off + j, none⟩ = false)
    (hvs : ∀ j v, vs[j]? = some v → w.cell? ⟨vb, voff + j, none⟩ = some v) (h1c : ∀ v ∈ cs, v.oneCell' = true) (h1v : ∀ v ∈ vs, v.oneCell' = true)
    (tA tB : TypeId) (kA kB : Nat) (hsa : w.shape? vb = some (tA, kA)) (hsb : w.shape? b = some (tB, kB)) (hkB : kB ≠ 0) (hfa : w.frozen? ⟨vb, voff, none⟩ = false) (hfe : w.frozen? ⟨vb, kA, none⟩ = false) :
    Calls Tryd.prog 37 #[.slice (some ⟨b, off, none⟩) n c, .int .i64 i, .slice (some ⟨vb, voff, none⟩) m vc] w fun e w' =>
      e = .returned (.slice (some ⟨b, off, none⟩) (n + m) c) ∧ w' = (w.drew.setCells b (off + (i + m)) (cs.drop i)).setCells b (off + i) vs := by
  have hz1 : ¬ ((m : Int) = 0) := by omega
  have hz2 : ¬ ((i : Int) = (n : Int)) := by omega
  have hsz : (Tryd.prog.info? 24).map (·.size) = some 1 := by kernel_rfl
  have hov : ∀ lb cb, (callFunc 57 #[.slice (some ⟨vb, voff, none⟩) m vc, .slice (some ⟨b, off + (i + m), none⟩) lb cb]).run Tryd.prog w = .ok (.value (.bool false)) w := fun lb cb => by
    rw [run_callFunc_extern Tryd.func57 (by kernel_rfl) (by kernel_rfl) (by kernel_rfl) (e := Extern.SlicesOverlaps.overlaps #[38, 38] #[4]) (by kernel_rfl),
      Lib.run_overlaps_apart w 38 4 24 Tryd.underlying38 1 sizeP ⟨vb, voff, none⟩ ⟨b, off + (i + m), none⟩ m vc lb cb hvb tA tB kA kB hsa hsb hkB hfa hfe]
    rfl
  have hdl : (cs.drop i).length = n - i := by rw [List.length_drop, hcl]
  have hw1 : IntKind.i64.wrap ((i : Int) + (m : Int)) = (i : Int) + (m : Int) := by rw [IntKind.wrap_i64]; omega
  have hb1 : (0 : Int) ≤ (i : Int) + (m : Int) := by omega
  have hin : i ≤ n := by omega
  have htn : ((i : Int) + (m : Int)).toNat = i + m := by omega
  have hb2 : ¬ (c = i + m) := by omega
  have hb3 : (i : Int) ≤ (n : Int) + (m : Int) := by omega
  have hb4 : ¬ (c = i) := by omega
  have hcp1 : ∀ ty dc sc, (Builtin.copy_ #[38, 38] ty #[.slice (some ⟨b, off + (i + m), none⟩) (n + m - (i + m)) dc, .slice (some ⟨b, off + i, none⟩) (n + m - i) sc]).run Tryd.prog w.drew = .ok (goInt (cs.drop i).length) (w.drew.setCells b (off + (i + m)) (cs.drop i)) := fun ty dc sc =>
    run_copy_cells w.drew _ _ ty 24 b (off + (i + m)) (n + m - (i + m)) dc ⟨b, off + i, none⟩ (n + m - i) sc (cs.drop i) Tryd.underlying38 hsz (by rw [hdl]; simp only [Nat.min_def]; split <;> omega)
      (fun j v hj => by rw [Addr.add_lit, Nat.add_assoc]; exact hcs (i + j) v (by rwa [List.getElem?_drop] at hj))
      (fun j hj => by rw [Nat.add_assoc]; exact hsp _ (by omega)) (fun j hj => by rw [Nat.add_assoc]; exact hfz _ (by omega)) (fun v hv => h1c v (List.mem_of_mem_drop hv))
  obtain ⟨W1, hW1⟩ : ∃ W1, W1 = w.drew.setCells b (off + (i + m)) (cs.drop i) := ⟨_, rfl⟩
  have hsp1 : ∀ k, k < n + m → (W1.cell? ⟨b, off + k, none⟩).isSome = true := fun k hk => by
    rw [hW1]
    exact Go.Proofs.isSome_setCells b _ _ _ (fun j hj => by rw [Nat.add_assoc]; exact hsp _ (by omega)) _ (hsp k hk)
  have hcp2 : ∀ (W : World), (∀ x, W.cell? x = W1.cell? x) → (∀ x, W.frozen? x = W1.frozen? x) → ∀ ty dc, (Builtin.copy_ #[38, 38] ty #[.slice (some ⟨b, off + i, none⟩) (n + m - i) dc, .slice (some ⟨vb, voff, none⟩) m vc]).run Tryd.prog W = .ok (goInt vs.length) (W.setCells b (off + i) vs) := fun W hWc hWf ty dc =>
    run_copy_cells W _ _ ty 24 b (off + i) (n + m - i) dc ⟨vb, voff, none⟩ m vc vs Tryd.underlying38 hsz (by rw [hvl]; simp only [Nat.min_def]; split <;> omega)
      (fun j v hj => by
        rw [Addr.add_lit, hWc, hW1, World.cell?_setCells_out b _ _ _ _ (fun h _ => absurd h hvb)]
        exact hvs j v hj)
      (fun j hj => by rw [hWc, Nat.add_assoc]; exact hsp1 _ (by omega)) (fun j hj => by rw [hWf, hW1, World.frozen?_setCells, Nat.add_assoc]; exact hfz _ (by omega)) h1v
  rw [← hW1] at hcp1
  have mixed : Tryd.prog.follows .mixedOrders = true := by kernel_rfl
  go_enter Tryd.func37, Tryd.ntmps37
  go_wp2_with (simp only [hov])
  go_region_law_o (refine Go.Proofs.step_copy_runI rfl _ _ 38 38 rfl _ _ (by simp [Act.eval, Act.put]) (by simp [Act.eval, Act.put]) (hcp1 _ _ _) ?_)
  go_wp2_with (at_builtin; refine Go.Proofs.wpList_copy_runI _ rfl _ _ 38 38 rfl _ _ rfl rfl (hcp2 _ (fun _ => rfl) (fun _ => rfl) _ _) ?_)
  go_ret
  first | exact ⟨rfl, rfl⟩ | exact ⟨rfl, by rw [hW1]⟩
set_option maxHeartbeats 8000000 in
set_option maxRecDepth 100000 in
theorem ins_grow (b off n c i vb voff m vc : Nat) (cs vs : List Value) (w : World) (hi : i < n) (hm : 0 < m) (hnc : n ≤ c) (hroom : c < n + m) (hbig : (n + m) * 24 ≤ 140737488355328)
    (hcl : cs.length = n) (hvl : vs.length = m)
    (hcs : ∀ j v, cs[j]? = some v → w.cell? ⟨b, off + j, none⟩ = some v)
    (hvs : ∀ j v, vs[j]? = some v → w.cell? ⟨vb, voff + j, none⟩ = some v) (h1c : ∀ v ∈ cs, v.oneCell' = true) (h1v : ∀ v ∈ vs, v.oneCell' = true) :
    Calls Tryd.prog 37 #[.slice (some ⟨b, off, none⟩) n c, .int .i64 i, .slice (some ⟨vb, voff, none⟩) m vc] w fun e w' =>
      ∃ (G : Nat) (ROW : Array Value), n + m ≤ G ∧ G ≤ 9223372036854775807 ∧ ROW.size = G ∧ (∀ j v, j < i → cs[j]? = some v → ROW[j]? = some v) ∧ e = .returned (.slice (some ⟨w.heap.size, 0, none⟩) (n + m) G) ∧
      w' = (((w.alloc (.cells ROW 24)).drew.setCells w.heap.size i vs).drew).setCells w.heap.size (i + m) (cs.drop i) := by
  obtain ⟨i0, hi0, hz0, hzs, hzb⟩ := info_parts infoP
  have hz1 : ¬ ((m : Int) = 0) := by omega
  have hz2 : ¬ ((i : Int) = (n : Int)) := by omega
  have hz3 : (c : Int) < (n : Int) + (m : Int) := by omega
  have hsz : (Tryd.prog.info? 24).map (·.size) = some 1 := by rw [hi0]; simp [hzs]
  have hbw : b < w.heap.size := block_lt_of_cell (hcs 0 _ (List.getElem?_eq_getElem (by omega)))
  have hvw : vb < w.heap.size := block_lt_of_cell (hvs 0 _ (List.getElem?_eq_getElem (by omega)))
  have hkk : (n : Int) + (m : Int) - (i : Int) = ((n + m - i : Nat) : Int) := by omega
  have hik : i + (n + m - i) = n + m := by omega
  have hold : (Builtin.firstCells i0.size i (.slice (some ⟨b, off, none⟩) i c)).run Tryd.prog w.drew = .ok (cs.take i).toArray w.drew := by
    rw [hzs]
    exact run_firstCells_some w.drew 1 i ⟨b, off, none⟩ i c (cs.take i) (by rw [List.length_take]; omega) (fun j v hj => by
      rw [Addr.add_lit]
      rw [List.getElem?_take] at hj
      split at hj
      · exact hcs j v hj
      · cases hj)
  have hrz : ∀ ty, (Builtin.append_ #[38, 3] ty #[.slice (some ⟨b, off, none⟩) i c, .int .i64 ((n : Int) + (m : Int) - (i : Int))]).run Tryd.prog w =
      .ok (.slice (some ⟨w.heap.size, 0, none⟩) (n + m) (grownCap w (n + m) c 24)) (w.drew.alloc (.cells ((cs.take i).toArray ++ Builtin.zeroCells (Value.slice none 0 0).cells (n + m - i) ++ Builtin.zeroCells (Value.slice none 0 0).cells (grownCap w (n + m) c 24 - (n + m))) 24)) := fun ty => by
    have h := Lib.run_append_grow_zeros w 38 3 ty 24 i0 _ .i64 .i64 Tryd.underlying38 Tryd.underlying3 hi0 hz0 (some ⟨b, off, none⟩) i c (cs.take i) hold (n + m - i) (by omega) (by omega) (by omega) (by omega) (by rw [hzb]; omega) (by rw [hzb, hik]; exact growslice_fits hroom hbig)
    rw [hik] at h
    rw [hkk]
    exact h
  obtain ⟨G, hG⟩ : ∃ G, G = grownCap w (n + m) c 24 := ⟨_, rfl⟩
  obtain ⟨ROW, hROW⟩ : ∃ ROW : Array Value, ROW = (cs.take i).toArray ++ Builtin.zeroCells (Value.slice none 0 0).cells (n + m - i) ++ Builtin.zeroCells (Value.slice none 0 0).cells (G - (n + m)) := ⟨_, rfl⟩
  rw [← hG] at hrz
  rw [← hROW] at hrz
  have hGn : n + m ≤ G := by rw [hG]; exact grownCap_ge w _ _ _
  have hRs : ROW.size = G := by
    rw [hROW]
    simp [Builtin.zeroCells, Value.cells]
    omega
  have hRl : n + m ≤ ROW.size := by omega
  have hRi : ∀ j v, j < i → cs[j]? = some v → ROW[j]? = some v := fun j v hj hv => by
    rw [hROW, Array.getElem?_append_left (by simp [Builtin.zeroCells, Value.cells]; omega), Array.getElem?_append_left (by simp; omega)]
    simp [hj, hv]
  obtain ⟨W1, hW1⟩ : ∃ W1, W1 = w.drew.alloc (.cells ROW 24) := ⟨_, rfl⟩
  rw [← hW1] at hrz
  have hN : ∀ j, j < n + m → (W1.cell? ⟨w.heap.size, j, none⟩).isSome = true := fun j hj => by
    rw [hW1, World.cell?_alloc_at (w := w.drew) ROW _ w.heap.size j rfl, Array.getElem?_eq_getElem (by omega)]; rfl
  have hNf : ∀ j, W1.frozen? ⟨w.heap.size, j, none⟩ = false := fun j => by rw [hW1]; exact World.frozen?_alloc_at (w := w.drew) ROW _ w.heap.size j rfl
  have hOb : ∀ j v, w.cell? ⟨b, j, none⟩ = some v → W1.cell? ⟨b, j, none⟩ = some v := fun j v h => by rw [hW1, World.cell?_alloc_past (w := w.drew) _ b j hbw]; exact h
  have hOv : ∀ j v, w.cell? ⟨vb, j, none⟩ = some v → W1.cell? ⟨vb, j, none⟩ = some v := fun j v h => by rw [hW1, World.cell?_alloc_past (w := w.drew) _ vb j hvw]; exact h
  have hcpA : ∀ (W : World), (∀ x, W.cell? x = W1.cell? x) → (∀ x, W.frozen? x = W1.frozen? x) → ∀ ty dc, (Builtin.copy_ #[38, 38] ty #[.slice (some ⟨w.heap.size, i, none⟩) (n + m - i) dc, .slice (some ⟨vb, voff, none⟩) m vc]).run Tryd.prog W = .ok (goInt vs.length) (W.setCells w.heap.size i vs) := fun W hWc hWf ty dc =>
    run_copy_cells W _ _ ty 24 w.heap.size i (n + m - i) dc ⟨vb, voff, none⟩ m vc vs Tryd.underlying38 hsz (by rw [hvl]; simp only [Nat.min_def]; split <;> omega)
      (fun j v hj => by rw [Addr.add_lit, hWc]; exact hOv _ v (hvs j v hj))
      (fun j hj => by rw [hWc]; exact hN _ (by omega)) (fun j hj => by rw [hWf]; exact hNf _) h1v
  have hG63 : G ≤ 9223372036854775807 := by
    have := grownCap_le_maxLen w (n + m) c 24 (by unfold maxLen; omega)
    rw [← hG] at this
    unfold maxLen at this
    omega
  have hGi : ¬ (G = i) := by omega
  have hGim : ¬ (G = i + m) := by omega
  have hci : ¬ (c = i) := by omega
  have hbN : b ≠ w.heap.size := by omega
  have hdl : (cs.drop i).length = n - i := by rw [List.length_drop, hcl]
  have hcpB : ∀ (W : World), (∀ x, W.cell? x = (W1.setCells w.heap.size i vs).cell? x) → (∀ x, W.frozen? x = (W1.setCells w.heap.size i vs).frozen? x) → ∀ ty dc sc, (Builtin.copy_ #[38, 38] ty #[.slice (some ⟨w.heap.size, i + m, none⟩) (n + m - (i + m)) dc, .slice (some ⟨b, off + i, none⟩) (n - i) sc]).run Tryd.prog W = .ok (goInt (cs.drop i).length) (W.setCells w.heap.size (i + m) (cs.drop i)) := fun W hWc hWf ty dc sc =>
    run_copy_cells W _ _ ty 24 w.heap.size (i + m) (n + m - (i + m)) dc ⟨b, off + i, none⟩ (n - i) sc (cs.drop i) Tryd.underlying38 hsz (by rw [hdl]; simp only [Nat.min_def]; split <;> omega)
      (fun j v hj => by
        rw [Addr.add_lit, hWc, World.cell?_setCells_out _ _ _ _ _ (fun h _ => absurd h hbN), Nat.add_assoc]
        exact hOb _ v (hcs (i + j) v (by rwa [List.getElem?_drop] at hj)))
      (fun j hj => by rw [hWc]; exact Go.Proofs.isSome_setCells _ _ _ _ (fun t ht => hN _ (by omega)) _ (hN _ (by omega)))
      (fun j hj => by rw [hWf, World.frozen?_setCells]; exact hNf _) (fun v hv => h1c v (List.mem_of_mem_drop hv))
  subst hW1
  have hE1 : ∀ x, ((w.alloc (.cells ROW 24)).drew).cell? x = (w.drew.alloc (.cells ROW 24)).cell? x := fun x => rfl
  have hE2 : ∀ x, ((w.alloc (.cells ROW 24)).drew).frozen? x = (w.drew.alloc (.cells ROW 24)).frozen? x := fun x => rfl
  have hF1 : ∀ x, (((w.alloc (.cells ROW 24)).drew.setCells w.heap.size i vs).drew).cell? x = ((w.drew.alloc (.cells ROW 24)).setCells w.heap.size i vs).cell? x := fun x => rfl
  have hF2 : ∀ x, (((w.alloc (.cells ROW 24)).drew.setCells w.heap.size i vs).drew).frozen? x = ((w.drew.alloc (.cells ROW 24)).setCells w.heap.size i vs).frozen? x := fun x => rfl
  have hw1 : IntKind.i64.wrap ((i : Int) + (m : Int)) = (i : Int) + (m : Int) := by rw [IntKind.wrap_i64]; omega
  have hb1 : (0 : Int) ≤ (i : Int) + (m : Int) := by omega
  have hin : i ≤ n := by omega
  have htn : ((i : Int) + (m : Int)).toNat = i + m := by omega
  have hb3 : (i : Int) ≤ (n : Int) := by omega
  clear hkk hik hold hROW hG hRl
  have HRI := Lib.hid hRi
  have HRS := Lib.hid hRs
  clear hRi hRs
  have mixed : Tryd.prog.follows .mixedOrders = true := by kernel_rfl
  go_enter Tryd.func37, Tryd.ntmps37
  go_wp2_with (first
    | (at_builtin; refine Lib.wpList_append_run _ rfl _ _ _ _ rfl _ _ rfl rfl _ _ (hrz _) ?_)
    | (at_builtin; refine Go.Proofs.wpList_copy_runI _ rfl _ _ 38 38 rfl _ _ rfl rfl (hcpA _ hE1 hE2 _ _) ?_)
    | (at_builtin; refine Go.Proofs.wpList_copy_runI _ rfl _ _ 38 38 rfl _ _ rfl rfl (hcpB _ (fun _ => rfl) (fun _ => rfl) _ _ _) ?_))
  go_region_law_o (refine Go.Proofs.step_copy_runI rfl _ _ 38 38 rfl (.slice (some ⟨w.heap.size, i + m, none⟩) (n + m - (i + m)) (G - (i + m))) (.slice (some ⟨b, off + i, none⟩) (n - i) (c - i)) (by simp [Act.eval, Act.put]) (by simp [Act.eval, Act.put]) (hcpB _ hF1 hF2 3 (G - (i + m)) (c - i)) ?_)
  go_wp2
  go_ret
  exact ⟨G, ROW, hGn, hG63, HRS.out, HRI.out, rfl, rfl⟩
end Go.Proofs.YtopacnaiedlaaaaDoor
end
section
/-
  slices.Insert at rows of rows, at the row's head, one row: what it leaves.
-/
namespace Go.Proofs.YtopacnaiedlaaaaDoor
open Go.RowKit Go.Lib Go.Proofs.YtopacnaiedlaaaaDoorW.PrintWords Go.Proofs.YtopacnaiedlaaaaDoorW.PrintLast Go.Proofs.YtopacnaiedlaaaaDoorW.PrintMore
set_option linter.unusedVariables false
set_option linter.unusedSimpArgs false
theorem below_setCells' {B : Nat} {a : World} (b : Nat) (hb : B ≤ b) : ∀ (vs : List Value) (o : Nat) {w : World}, Below B a w → Below B a (w.setCells b o vs)
  | [], _, _, h => h
  | v :: r, o, _, h => below_setCells' b hb r (o + 1) (h.setCell (p := ⟨b, o, none⟩) hb v)
theorem encs_cons (p : SlV) (l : List SlV) : encs encV (p :: l) = encV p :: encs encV l := rfl
theorem encs_len (l : List SlV) : (encs encV l).length = l.length := by simp [encs]
set_option maxRecDepth 100000 in
theorem ins_calls (v : Value) (vals : List SlV) (p : SlV) (vb : Nat) (w0 w : World) (hB : Below w0.heap.size w0 w) (hv : kv.R 24 w w0.heap.size (fun k => some k = v.ownBlock) v vals) (hp : 0 < vals.length)
    (hbig : (vals.length + 1) * 24 ≤ 140737488355328) (hb : w.heap[vb]? = some (.cells #[encV p] 24 (0, 0))) (hne : some vb ≠ v.ownBlock) :
    Calls Tryd.prog 37 #[v, .int .i64 0, .slice (some ⟨vb, 0, none⟩) 1 1] w fun e w' => ∃ v', e = .returned v' ∧ kv.R 24 w' w0.heap.size (fun k => some k = v'.ownBlock) v' (p :: vals) ∧
      Below w0.heap.size w0 w' ∧ (∀ k, k < w.heap.size → some k ≠ v.ownBlock → w'.heap[k]? = w.heap[k]?) ∧ (v'.ownBlock = v.ownBlock ∨ v'.ownBlock = some w.heap.size) := by
  have ho := Kd.own_of_R hv
  rcases ho.2 with ⟨rfl, h0⟩ | ⟨g, cap, cur, rfl, hg, hh, hnc, hcm, hsz, htk⟩
  · omega
  rw [Nat.mul_one] at hsz htk
  have hgv : g ≠ vb := fun e => hne (by simp [Value.ownBlock, e])
  have hcs : ∀ j v, (encs encV vals)[j]? = some v → w.cell? ⟨g, 0 + j, none⟩ = some v := fun j v hj => by
    rw [Nat.zero_add, blk_cell hh]
    rw [← htk, List.getElem?_take] at hj
    split at hj
    · simpa using hj
    · cases hj
  have hvs : ∀ j u, [encV p][j]? = some u → w.cell? ⟨vb, 0 + j, none⟩ = some u := fun j u hj => by
    rw [Nat.zero_add, blk_cell hb]
    cases j with
    | zero => simpa using hj
    | succ j => simp at hj
  have h1c : ∀ v ∈ encs encV vals, v.oneCell' = true := fun v hv => by
    unfold encs at hv
    obtain ⟨q, _, rfl⟩ := List.mem_map.1 hv
    rfl
  have h1v : ∀ v ∈ [encV p], v.oneCell' = true := fun v hv => by
    rw [List.mem_singleton.1 hv]
    rfl
  have hcl := encs_len vals
  have hm63 : cap ≤ 9223372036854775807 := by unfold maxLen at hcm; omega
  by_cases hroom : vals.length + 1 ≤ cap
  · have hC := ins_room g vals.length cap vb 0 1 0 1 0 (encs encV vals) [encV p] w hp (by omega) hroom hm63 (fun e => hgv e.symm) hcl rfl hcs
      (fun j hj => by rw [Nat.zero_add, blk_cell hh, Array.getElem?_eq_getElem (by omega)]; rfl) (fun j hj => frozen_of_row w g _ _ _ hh) hvs h1c h1v 24 24 1 cur.size
      (by simp [World.shape?, hb]) (by simp [World.shape?, hh]) (by omega) (frozen_of_row w vb _ _ _ hb) (frozen_of_row w vb _ _ _ hb)
    refine hC.mono ?_
    rintro e w' ⟨rfl, rfl⟩
    simp only [Nat.zero_add, List.drop_zero]
    obtain ⟨cur1, hh1, hs1, hl1⟩ := setCells_row (encs encV vals) 1 w.drew cur hh (by omega)
    obtain ⟨cur2, hh2, hs2, hl2⟩ := setCells_row [encV p] 0 _ cur1 hh1 (by simp; omega)
    refine ⟨_, rfl, ?_, below_setCells' g hg _ _ (below_setCells' g hg _ _ (below_drew hB)), fun k hk hne' => ?_, .inl (by simp [Value.ownBlock])⟩
    · refine Kd.R_of_own ⟨by simp [encs], .inr ⟨g, cap, cur2, by rw [List.length_cons], hg, hh2, by simp; omega, hcm, by omega, ?_⟩⟩ (fun k hk => hk.symm)
      rw [hl2, hl1, Nat.mul_one, List.length_cons, encs_cons]
      simp only [List.take_zero, List.nil_append, List.length_singleton, Nat.zero_add]
      rw [List.drop_append_of_le_length (by simp; omega), List.drop_append_of_le_length (by simp; omega)]
      rw [show (cur.toList.take 1).drop 1 = [] by simp, List.nil_append, List.singleton_append, List.take_succ_cons, List.take_append_of_le_length (by omega), List.take_of_length_le (by omega)]
    · have hkg : k ≠ g := fun e => hne' (by simp [Value.ownBlock, e])
      rw [setCells_far _ _ _ hkg, setCells_far _ _ _ hkg]
      rfl
  · have hC := ins_grow g 0 vals.length cap 0 vb 0 1 1 (encs encV vals) [encV p] w hp (by omega) hnc (by omega) hbig hcl rfl hcs hvs h1c h1v
    refine hC.mono ?_
    rintro e w' ⟨G, ROW, hG, hG63, hRs, _, rfl, rfl⟩
    simp only [Nat.zero_add, List.drop_zero]
    have hh0 : (w.alloc (.cells ROW 24)).drew.heap[w.heap.size]? = some (.cells ROW 24 (0, 0)) := blk_new w _
    obtain ⟨cur1, hh1, hs1, hl1⟩ := setCells_row [encV p] 0 _ ROW hh0 (by simp; omega)
    obtain ⟨cur2, hh2, hs2, hl2⟩ := setCells_row (encs encV vals) 1 ((w.alloc (.cells ROW 24)).drew.setCells w.heap.size 0 [encV p]).drew cur1 hh1 (by omega)
    have hBw := hB.size
    refine ⟨_, rfl, ?_, below_setCells' w.heap.size hBw _ _ (below_drew (below_setCells' w.heap.size hBw _ _ (below_drew (hB.alloc hBw _)))), fun k hk hne' => ?_, .inr (by simp [Value.ownBlock])⟩
    · refine Kd.R_of_own ⟨by simp [encs], .inr ⟨w.heap.size, G, cur2, by rw [List.length_cons], hBw, hh2, by simp; omega, by unfold maxLen; omega, by omega, ?_⟩⟩ (fun k hk => hk.symm)
      rw [hl2, hl1, Nat.mul_one, List.length_cons, encs_cons]
      simp only [List.take_zero, List.nil_append, List.length_singleton, Nat.zero_add, List.singleton_append, List.take_succ_cons, List.cons_append]
      rw [List.take_append_of_le_length (by omega), List.take_of_length_le (by omega)]
    · have hkg : k ≠ w.heap.size := by omega
      rw [setCells_far _ _ _ hkg]
      show ((w.alloc (.cells ROW 24)).drew.setCells w.heap.size 0 [encV p]).heap[k]? = _
      rw [setCells_far _ _ _ hkg]
      exact Below.heap_alloc w _ k hk
set_option maxRecDepth 100000 in
theorem ins_S (v lv : Value) (xs : List (List F.S29)) (l : List F.S29) (w0 W : World) (hB : Below w0.heap.size w0 W)
    (h : Kd.S (Kd.slice 29 F.k29) 24 W w0.heap.size (fun k => some k ≠ lv.ownBlock) v xs)
    (hl : F.k29.R 29 W w0.heap.size (fun _ => True) lv l) (hp : 0 < xs.length) (hbig : (xs.length + 1) * 24 ≤ 140737488355328) :
    Calls Tryd.prog 37 #[v, .int .i64 0, .slice (some ⟨W.heap.size, 0, none⟩) 1 1] (W.alloc (.cells #[lv] 24)) fun e w' => ∃ v', e = .returned v' ∧
      Kd.S (Kd.slice 29 F.k29) 24 w' w0.heap.size (fun _ => True) v' (l :: xs) ∧ Below w0.heap.size w0 w' := by
  obtain ⟨vals, f, hv, h0, hi⟩ := S_vals h
  obtain ⟨A, c, rfl⟩ := Kd.R_slice hl
  have hlt := Kd.R_lt hv
  have hty := Kd.S_typed h
  refine (ins_calls v vals ⟨A, l.length, c⟩ W.heap.size w0 (W.alloc (.cells #[.slice A l.length c] 24)) (hB.alloc hB.size _) (Kd.R_alloc hv _) (by rw [hi.1]; exact hp) (by rw [hi.1]; exact hbig) (blk_new W _)
    (fun e => by have := hlt _ e.symm; omega)).mono ?_
  rintro e w' ⟨v', rfl, hv', hb', hk, hat⟩
  have hsz : (W.alloc (.cells #[Value.slice A l.length c] 24)).heap.size = W.heap.size + 1 := by simp
  have hmv : ∀ k, k < W.heap.size → some k ≠ v.ownBlock → w'.heap[k]? = W.heap[k]? := fun k hk1 hk2 => (hk k (by omega) hk2).trans (Below.heap_alloc W _ k hk1)
  have hat' : ∀ k, k < W.heap.size → some k ≠ v.ownBlock → some k ≠ v'.ownBlock := fun k hk1 hk2 e => by
    rcases hat with e2 | e2
    · exact hk2 (e.trans e2)
    · rw [e2, hsz] at e
      injection e with e
      omega
  have hl2 := Kd.R_tight (d := F.k29) rfl (Kd.R_apart' hl hty (by decide))
  have hl3 := Kd.R_bound (Kd.R_apart' hl hty (by decide))
  refine ⟨v', rfl, S_of_vals (f := fun k => if some k = (Value.slice A l.length c).ownBlock then 0 else f k + 1) hv' (fun _ _ => trivial) ⟨by rw [List.length_cons, List.length_cons, hi.1], fun j x hj => ?_⟩, hb'⟩
  cases j with
  | zero =>
    obtain rfl : l = x := by simpa using hj
    refine ⟨_, rfl, ?_⟩
    refine Kd.R_mono (Kd.R_move (Kd.R_mono (Kd.R_bound hl2) (ok' := fun k => (some k = (Value.slice A l.length c).ownBlock) ∧ k < W.heap.size ∧ some k ≠ v.ownBlock) ?_) (fun k hk => hmv k hk.2.1 hk.2.2)) (fun k hk => ⟨⟨trivial, hat' k hk.2.1 hk.2.2⟩, if_pos hk.1⟩)
    exact fun k hk => ⟨hk.1, hk.2.2.1, (hl3.1 k hk.1.symm).1.2⟩
  | succ j =>
    obtain ⟨q, hq, hR⟩ := hi.2 j x (by simpa using hj)
    refine ⟨q, by simpa using hq, ?_⟩
    refine Kd.R_mono (Kd.R_move (Kd.R_bound hR) (fun k hk => hmv k hk.2.2.1 hk.1.1.2)) (fun k hk => ⟨⟨trivial, hat' k hk.2.2.1 hk.1.1.2⟩, ?_⟩)
    show (if some k = (Value.slice A l.length c).ownBlock then 0 else f k + 1) = j + 1
    rw [if_neg hk.1.1.1, hk.1.2]
end Go.Proofs.YtopacnaiedlaaaaDoor
end
