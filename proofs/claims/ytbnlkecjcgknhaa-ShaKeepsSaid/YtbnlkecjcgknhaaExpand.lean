/-
  The table K and the words of a block: what sha.table and sha.expand answer.
-/
import Derived.Test.YtbnlkecjcgknhaaRot
namespace Go.Proofs.Ytbnlkecjcgknhaa
open Go.RowKit Go.Proofs.YtbnlkecjcgknhaaW.PrintWords Go.Proofs.YtbnlkecjcgknhaaW.PrintLast Go.Proofs.YtbnlkecjcgknhaaW.PrintMore
set_option linter.unusedVariables false
set_option linter.unusedSimpArgs false

/-- words as values -/
def u32s (l : List Int) : Array Value := (l.map (Value.int .u32)).toArray
theorem u32s_size (l : List Int) : (u32s l).size = l.length := by simp [u32s]
theorem u32s_one (l : List Int) : (u32s l).all (·.oneCell') = true := by
  simp [u32s]
  intro i h
  rfl

theorem wraps_u32 (n : Int) (h₀ : 0 ≤ n) (h₁ : n < 2 ^ 32) : IntKind.u32.wrap n = n := by rw [IntKind.wrap_u32]; omega
theorem u32_or (i : Nat) (x y : Int) (hx₀ : 0 ≤ x) (hx : x % 2 ^ i = 0) (hx₁ : x < 2 ^ 32) (hy₀ : 0 ≤ y) (hy : y < 2 ^ i) (hy₁ : y < 2 ^ 32) : Go.bits .or .u32 x y = x + y :=
  bits_join .u32 32 (by decide) wraps_u32 i x y hx₀ hx hx₁ hy₀ hy hy₁
/-- four bytes, laid together by the bits, are their number -/
theorem word_or (x0 x1 x2 x3 : Int) (h0 : 0 ≤ x0 ∧ x0 < 256) (h1 : 0 ≤ x1 ∧ x1 < 256) (h2 : 0 ≤ x2 ∧ x2 < 256) (h3 : 0 ≤ x3 ∧ x3 < 256) :
    Go.bits .or .u32 (Go.bits .or .u32 (Go.bits .or .u32 (x0 % 4294967296 * 16777216 % 4294967296) (x1 % 4294967296 * 65536 % 4294967296)) (x2 % 4294967296 * 256 % 4294967296)) (x3 % 4294967296) = x0 * 16777216 + x1 * 65536 + x2 * 256 + x3 := by
  rw [show x0 % 4294967296 * 16777216 % 4294967296 = x0 * 16777216 by omega, show x1 % 4294967296 * 65536 % 4294967296 = x1 * 65536 by omega, show x2 % 4294967296 * 256 % 4294967296 = x2 * 256 by omega, show x3 % 4294967296 = x3 by omega]
  rw [u32_or 24 (x0 * 16777216) (x1 * 65536) (by omega) (by omega) (by omega) (by omega) (by omega) (by omega)]
  rw [u32_or 16 _ (x2 * 256) (by omega) (by omega) (by omega) (by omega) (by omega) (by omega)]
  rw [u32_or 8 _ x3 (by omega) (by omega) (by omega) (by omega) (by omega) (by omega)]

theorem u32s_zero (m : Nat) : u32s (List.replicate m 0) = Array.replicate m (.int .u32 0) := by rw [u32s, List.map_replicate, List.toArray_replicate]
theorem u32s_set (p : List Int) (k m : Nat) (v : Int) (hp : p.length = k) (hm : 0 < m) :
    (u32s (p ++ List.replicate m 0)).setIfInBounds k (.int .u32 v) = u32s (p ++ [v] ++ List.replicate (m - 1) 0) := by
  obtain ⟨m, rfl⟩ : ∃ n, m = n + 1 := ⟨m - 1, by omega⟩
  subst hp
  simp [u32s, List.replicate_succ]
theorem u32s_at (p : List Int) (k : Nat) (h : k < p.length) : (u32s p)[k]? = some (.int .u32 (p.getD k 0)) := by
  simp [u32s, h]

theorem infoArr : (Try.prog.info? 40).map (·.size) = some 64 := by kernel_rfl
theorem infoSt : (Try.prog.info? 33).map (·.size) = some 8 := by kernel_rfl

theorem zeroArr (w : World) : (zeroValue 40).run Try.prog w = .ok (.agg (Array.replicate 64 (.int .u32 0))) w := by kernel_rfl
theorem zeroSt (w : World) : (zeroValue 33).run Try.prog w = .ok (.agg (Array.replicate 8 (.int .u32 0))) w := by kernel_rfl

theorem wpList_buildAs {P : Program} {ops : Array Oper} {rest : List Oper} {o : Oper} {a : Act} {w : World} {Q : Exit → Act → World → Prop} (hg : o.guard = none) (t : TypeId) (parts : Array (Nat × Operand)) (cells : Array Value) (ho : o.op = .build t parts)
    (hf : P.built t (parts.map fun (i, x) => (i, a.eval x)).toList = some cells)
    (h : wpList P ops Q rest (a.put o.dst (.agg cells)) w) : wpList P ops Q (o :: rest) a w :=
  wpList_build hg t parts ho (by rw [hf]; rfl) (by rw [hf]; exact h)

set_option maxRecDepth 100000 in
theorem table_calls (w : World) :
    Calls Try.prog 18 #[] w fun e w' => e = .returned (.agg (u32s Sha.K)) ∧ Below w.heap.size w w' := by
  have hv := zeroArr
  go_enter Try.func18, Try.ntmps18
  go_wp2_with (first | (refine wpList_buildAs rfl 40 _ (u32s Sha.K) rfl (by kernel_rfl) ?_) | (refine wpList_store_row rfl 40 (.tmp 0) (.tmp 1) rfl w.heap.size (u32s Sha.K) rfl rfl 40 _ (heap_alloc_last w _) infoArr (by rw [u32s_size]; rfl) (u32s_one _) ?_; rw [World.setRow_alloc_new]))
  refine bodyPost_ret (v := .agg (u32s Sha.K)) (results_cell_row rfl _ _ w.heap.size 40 _ (0, 0) _ rfl (heap_alloc_last w _) Try.underlying40 rfl infoArr) rfl ⟨rfl, (Below.refl _ _).alloc (Nat.le_refl _) _⟩

theorem addr_add_succ (ad : Addr) (n m : Nat) : ad.add (n + (m + 1)) = ⟨ad.block, ad.off + (n + (m + 1)), none⟩ := by
  simp [Addr.add]

/-- a list of bytes that is read, cell by cell -/
theorem bytes_at {w : World} {A : Option Addr} {l : List Int} (h : Kd.C (Kd.int .u8) w A l.length l) (hl : 0 < l.length) : ∃ ad : Addr, A = some ad ∧ ∀ i, i < l.length → w.cell? (ad.add i) = some (.int .u8 (l.getD i 0)) := by
  obtain ⟨ad, _, e, _⟩ := Kd.C_get h 0 0 (by omega) (by omega)
  refine ⟨ad, e, fun i hi => ?_⟩
  obtain ⟨ad', cs, e', _, hk, hc⟩ := Kd.C_get h 0 (i : Int) (by omega) (by omega)
  rw [e] at e'
  obtain rfl := Option.some.inj e'
  have := hc 0 (.int .u8 (l.getD (i : Int).toNat 0)) (by rw [show cs = _ from hk]; rfl)
  simpa [Kd.int, Kd.scalar] using this

set_option maxHeartbeats 2000000 in
set_option maxRecDepth 100000 in
theorem expand_calls (A : Option Addr) (c : Nat) (l : List Int) (w : World) (hr : Kd.C (Kd.int .u8) w A l.length l) (hc : l.length ≤ c) (hl : l.length = 64) (hby : ∀ x ∈ l, 0 ≤ x ∧ x < 256) :
    Calls Try.prog 19 #[.slice A l.length c] w fun e w' => e = .returned (.agg (u32s (Sha.words l))) ∧ Below w.heap.size w w' := by
  obtain ⟨ad, rfl, hcell⟩ := bytes_at hr (by omega)
  have hv := zeroArr
  have HC := Lib.hid hcell
  have HL := Lib.hid hl
  have HBY := Lib.hid hby
  have hlen : 63 < l.length := by omega
  have hlen2 : l.length ≤ 64 := by omega
  clear hr hcell hl hby
  go_enter Try.func19, Try.ntmps19
  go_wp2
  clear hv
  go_loopw [10] (fun i wr => ∃ k : Nat, k ≤ 16 ∧ i = .int .i64 k ∧ Below w.heap.size w wr ∧ wr.heap.size = w.heap.size + 2 ∧ wr.heap[w.heap.size]? = some (.cells (Array.replicate 64 (.int .u32 0)) 40 (0, 0)) ∧ wr.heap[w.heap.size + 1]? = some (.cells (u32s (Sha.first k l ++ List.replicate (64 - k) 0)) 40 (0, 0))) (fun i _ => 16 - (intOf i).toNat)
  case atStart => exact ⟨0, by omega, by go_num, ((Below.refl _ w).alloc (Nat.le_refl _) _).alloc (by simp) _, by simp, heap_alloc2_old w _ _, (heap_alloc2_new w _ _).trans (by rw [show Sha.first 0 l ++ List.replicate (64 - 0) 0 = List.replicate 64 (0 : Int) from rfl, u32s_zero])⟩
  case round =>
    obtain ⟨k, hk, rfl, hB, hsz, h0, h1⟩ := hrel
    by_cases hlt : k < 16
    · have hlw : ∀ j, j < 64 → wr.cell? (ad.add j) = some (.int .u8 (l.getD j 0)) := fun j hj => by
        have hh := HC.out j (by omega)
        exact (hB.cell (World.block_lt_of_cell? w _ hh)).trans hh
      have g0 := hlw (4 * k) (by omega)
      have g1 : wr.cell? ⟨ad.block, ad.off + (4 * k + 1), none⟩ = _ := (congrArg wr.cell? (addr_add_succ ad (4 * k) 0)).symm.trans (hlw (4 * k + 1) (by omega))
      have g2 : wr.cell? ⟨ad.block, ad.off + (4 * k + 2), none⟩ = _ := (congrArg wr.cell? (addr_add_succ ad (4 * k) 1)).symm.trans (hlw (4 * k + 2) (by omega))
      have g3 : wr.cell? ⟨ad.block, ad.off + (4 * k + 3), none⟩ = _ := (congrArg wr.cell? (addr_add_succ ad (4 * k) 2)).symm.trans (hlw (4 * k + 3) (by omega))
      obtain ⟨x0, e0⟩ : ∃ x, x = l.getD (4 * k) 0 := ⟨_, rfl⟩
      obtain ⟨x1, e1⟩ : ∃ x, x = l.getD (4 * k + 1) 0 := ⟨_, rfl⟩
      obtain ⟨x2, e2⟩ : ∃ x, x = l.getD (4 * k + 2) 0 := ⟨_, rfl⟩
      obtain ⟨x3, e3⟩ : ∃ x, x = l.getD (4 * k + 3) 0 := ⟨_, rfl⟩
      rw [← e0] at g0
      rw [← e1] at g1
      rw [← e2] at g2
      rw [← e3] at g3
      have gw : wr.cell? ⟨w.heap.size + 1, k, none⟩ = some (.int .u32 0) := by
        rw [cell_of_row wr _ k _ _ _ h1, u32s_at _ _ (by simp [Sha.first_length]; omega)]
        rw [List.getD_eq_getElem?_getD, List.getElem?_append_right (by rw [Sha.first_length]; exact Nat.le_refl _)]
        simp [Sha.first_length, show 0 < 64 - k by omega]
      have gf : wr.frozen? ⟨w.heap.size + 1, k, none⟩ = false := frozen_of_row wr _ k _ _ h1
      have E0 := Lib.hid e0
      have E1 := Lib.hid e1
      have E2 := Lib.hid e2
      have E3 := Lib.hid e3
      have hB' := Lib.hid hB
      have hsz' := Lib.hid hsz
      have h0' := Lib.hid h0
      have h1' := Lib.hid h1
      clear hB hsz h0 h1 e0 e1 e2 e3 hlw
      go_wp2
      have n0 : IntKind.i64.wrap (4 * (k : Int)) = 4 * (k : Int) := IntWalk.i64_in _ (by omega)
      have n1 : IntKind.i64.wrap (4 * (k : Int) + 1) = 4 * (k : Int) + 1 := IntWalk.i64_in _ (by omega)
      have n2 : IntKind.i64.wrap (4 * (k : Int) + 2) = 4 * (k : Int) + 2 := IntWalk.i64_in _ (by omega)
      have n3 : IntKind.i64.wrap (4 * (k : Int) + 3) = 4 * (k : Int) + 3 := IntWalk.i64_in _ (by omega)
      have p0 : (0 : Int) ≤ 4 * (k : Int) := by omega
      have p1 : (0 : Int) ≤ 4 * (k : Int) + 1 := by omega
      have p2 : (0 : Int) ≤ 4 * (k : Int) + 2 := by omega
      have p3 : (0 : Int) ≤ 4 * (k : Int) + 3 := by omega
      have q0 : 4 * (k : Int) < (l.length : Int) := by omega
      have q1 : 4 * (k : Int) + 1 < (l.length : Int) := by omega
      have q2 : 4 * (k : Int) + 2 < (l.length : Int) := by omega
      have q3 : 4 * (k : Int) + 3 < (l.length : Int) := by omega
      have m0 : (4 * (k : Int)).toNat = 4 * k := by omega
      have m1 : (4 * (k : Int) + 1).toNat = 4 * k + 1 := by omega
      have m2 : (4 * (k : Int) + 2).toNat = 4 * k + 2 := by omega
      have m3 : (4 * (k : Int) + 3).toNat = 4 * k + 3 := by omega
      have r0 : (0 : Int) ≤ (k : Int) := by omega
      have r1 : (k : Int) < 64 := by omega
      have r2 : k < 64 := by omega
      go_still_tail 35, (by kernel_rfl)
      clear n0 n1 n2 n3 p0 p1 p2 p3 q0 q1 q2 q3 m0 m1 m2 m3
      change wpList _ _ _ _ _ wr.drew
      go_wp2
      go_roundw
      case rel =>
        have hm : ∀ i, i < 64 → 0 ≤ l.getD i 0 ∧ l.getD i 0 < 256 := fun i hi => by
          have := HL.out
          rw [List.getD_eq_getElem?_getD, List.getElem?_eq_getElem (by omega)]
          exact HBY.out _ (List.getElem_mem _)
        have b0 := hm (4 * k) (by omega)
        have b1 := hm (4 * k + 1) (by omega)
        have b2 := hm (4 * k + 2) (by omega)
        have b3 := hm (4 * k + 3) (by omega)
        rw [← E0.out] at b0
        rw [← E1.out] at b1
        rw [← E2.out] at b2
        rw [← E3.out] at b3
        rw [word_or x0 x1 x2 x3 b0 b1 b2 b3]
        have hw : x0 * 16777216 + x1 * 65536 + x2 * 256 + x3 = Sha.word l k := by rw [E0.out, E1.out, E2.out, E3.out]; rfl
        rw [hw]
        refine ⟨k + 1, by omega, by go_num, ?_, ?_, ?_, ?_⟩
        · exact (hB'.out.setCell (p := ⟨w.heap.size + 1, k, none⟩) (by simp) _).drew
        · simpa using hsz'.out
        · rw [heap_drew, heap_setCell_other _ _ _ _ (by simp)]; exact h0'.out
        · rw [heap_drew, heap_setCell_same _ _ _ _ _ _ h1'.out, u32s_set _ k (64 - k) _ (Sha.first_length _ _) (by omega)]
          rfl
      case measure => simp [intOf]; omega
    · obtain rfl : k = 16 := by omega
      have hB' := Lib.hid hB
      have hsz' := Lib.hid hsz
      have h0' := Lib.hid h0
      have h1' := Lib.hid h1
      clear hB hsz h0 h1 hlt hk
      rw [show ((16 : Nat) : Int) = 16 from rfl]
      go_wp2
      go_loopw [5] (fun i wx => ∃ (k : Nat) (p : List Int), 16 ≤ k ∧ k ≤ 64 ∧ i = .int .i64 k ∧ Below w.heap.size w wx ∧ wx.heap.size = w.heap.size + 2 ∧ p.length = k ∧ Sha.ext (64 - k) p = Sha.words l ∧ wx.heap[w.heap.size]? = some (.cells (Array.replicate 64 (.int .u32 0)) 40 (0, 0)) ∧ wx.heap[w.heap.size + 1]? = some (.cells (u32s (p ++ List.replicate (64 - k) 0)) 40 (0, 0))) (fun i _ => 64 - (intOf i).toNat)
      case atStart => exact ⟨16, Sha.first 16 l, by omega, by omega, by go_num, hB'.out, hsz'.out, Sha.first_length _ _, rfl, h0'.out, h1'.out⟩
      case round =>
        obtain ⟨k, p, hk1, hk2, rfl, hB, hsz, hp, hw, h0, h1⟩ := hrel
        obtain ⟨wx, rfl⟩ : ∃ wx, wx = wr := ⟨_, rfl⟩
        by_cases hlt : k < 64
        · have hat : ∀ j, j < k → wx.cell? ⟨w.heap.size + 1, j, none⟩ = some (.int .u32 (p.getD j 0)) := fun j hj => by
            rw [cell_of_row wx _ j _ _ _ h1, u32s_at _ _ (by simp; omega)]
            rw [List.getD_eq_getElem?_getD, List.getElem?_append_left (by omega), ← List.getD_eq_getElem?_getD]
          have g0 := hat (k - 15) (by omega)
          have g1 := hat (k - 2) (by omega)
          have g2 := hat (k - 16) (by omega)
          have g3 := hat (k - 7) (by omega)
          obtain ⟨x, ex⟩ : ∃ x, x = p.getD (k - 15) 0 := ⟨_, rfl⟩
          obtain ⟨y, ey⟩ : ∃ x, x = p.getD (k - 2) 0 := ⟨_, rfl⟩
          obtain ⟨a, ea⟩ : ∃ x, x = p.getD (k - 16) 0 := ⟨_, rfl⟩
          obtain ⟨b, eb⟩ : ∃ x, x = p.getD (k - 7) 0 := ⟨_, rfl⟩
          rw [← ex] at g0
          rw [← ey] at g1
          rw [← ea] at g2
          rw [← eb] at g3
          have gw : wx.cell? ⟨w.heap.size + 1, k, none⟩ = some (.int .u32 0) := by
            rw [cell_of_row wx _ k _ _ _ h1, u32s_at _ _ (by simp; omega)]
            rw [List.getD_eq_getElem?_getD, List.getElem?_append_right (by omega)]
            simp [hp, show 0 < 64 - k by omega]
          have gf : wx.frozen? ⟨w.heap.size + 1, k, none⟩ = false := frozen_of_row wx _ k _ _ h1
          have EX := Lib.hid ex
          have EY := Lib.hid ey
          have EA := Lib.hid ea
          have EB := Lib.hid eb
          have hB'' := Lib.hid hB
          have hsz'' := Lib.hid hsz
          have h0'' := Lib.hid h0
          have h1'' := Lib.hid h1
          have hp'' := Lib.hid hp
          have hw'' := Lib.hid hw
          clear hB hsz h0 h1 ex ey ea eb hp hw hat hB' hsz' h0' h1'
          go_wp2
          have n0 : IntKind.i64.wrap ((k : Int) - 15) = (k : Int) - 15 := IntWalk.i64_in _ (by omega)
          have n1 : IntKind.i64.wrap ((k : Int) - 2) = (k : Int) - 2 := IntWalk.i64_in _ (by omega)
          have p0 : (0 : Int) ≤ (k : Int) - 15 := by omega
          have p1 : (0 : Int) ≤ (k : Int) - 2 := by omega
          have q0 : (k : Int) - 15 < 64 := by omega
          have q1 : (k : Int) - 2 < 64 := by omega
          have m0 : ((k : Int) - 15).toNat = k - 15 := by omega
          have m1 : ((k : Int) - 2).toNat = k - 2 := by omega
          go_quiet (fail)
          clear n0 n1 p0 p1 q0 q1 m0 m1
          go_wp2_with fail
          refine (rotl_calls x (-7) 7 25 (by decide) (by decide) _).mono ?_
          rintro e w1 ⟨rfl, rfl⟩
          go_wp2_with fail
          refine (rotl_calls x (-18) 18 14 (by decide) (by decide) _).mono ?_
          rintro e w1 ⟨rfl, rfl⟩
          go_wp2_with fail
          refine (rotl_calls y (-17) 17 15 (by decide) (by decide) _).mono ?_
          rintro e w1 ⟨rfl, rfl⟩
          go_wp2_with fail
          refine (rotl_calls y (-19) 19 13 (by decide) (by decide) _).mono ?_
          rintro e w1 ⟨rfl, rfl⟩
          go_wp2_with fail
          have g2 : (wx.drewN nq).cell? ⟨w.heap.size + 1, k - 16, none⟩ = some (.int .u32 a) := g2
          have g3 : (wx.drewN nq).cell? ⟨w.heap.size + 1, k - 7, none⟩ = some (.int .u32 b) := g3
          have gw : (wx.drewN nq).cell? ⟨w.heap.size + 1, k, none⟩ = some (.int .u32 0) := gw
          have gf : (wx.drewN nq).frozen? ⟨w.heap.size + 1, k, none⟩ = false := gf
          have hB3 := Lib.hid (pw_below_drewN hB''.out nq)
          have hsz3 : Hid ((wx.drewN nq).heap.size = w.heap.size + 2) := Lib.hid hsz''.out
          have h03 : Hid ((wx.drewN nq).heap[w.heap.size]? = some (.cells (Array.replicate 64 (.int .u32 0)) 40 (0, 0))) := Lib.hid h0''.out
          have h13 : Hid ((wx.drewN nq).heap[w.heap.size + 1]? = some (.cells (u32s (p ++ List.replicate (64 - k) 0)) 40 (0, 0))) := Lib.hid h1''.out
          clear hB'' hsz'' h0'' h1''
          generalize wx.drewN nq = wy at *
          have n2 : IntKind.i64.wrap ((k : Int) - 16) = (k : Int) - 16 := IntWalk.i64_in _ (by omega)
          have n3 : IntKind.i64.wrap ((k : Int) - 7) = (k : Int) - 7 := IntWalk.i64_in _ (by omega)
          have p2 : (0 : Int) ≤ (k : Int) - 16 := by omega
          have p3 : (0 : Int) ≤ (k : Int) - 7 := by omega
          have q2 : (k : Int) - 16 < 64 := by omega
          have q3 : (k : Int) - 7 < 64 := by omega
          have m2 : ((k : Int) - 16).toNat = k - 16 := by omega
          have m3 : ((k : Int) - 7).toNat = k - 7 := by omega
          have r0 : (0 : Int) ≤ (k : Int) := by omega
          have r1 : (k : Int) < 64 := by omega
          have s2 : (16 : Int) ≤ (k : Int) := by omega
          have s3 : (7 : Int) ≤ (k : Int) := by omega
          go_still_tail 15, (by kernel_rfl)
          clear n2 n3 p2 p3 q2 q3 m2 m3 r0 r1 s2 s3
          change wpList _ _ _ _ _ (World.drew _)
          go_wp2
          go_roundw
          case rel =>
            have hpl := hp''.out
            have hwl := hw''.out
            have hval : (a + Go.bits .xor .u32 (Go.bits .xor .u32 (Sha.rot x 7) (Sha.rot x 18)) (x / 8) + b + Go.bits .xor .u32 (Go.bits .xor .u32 (Sha.rot y 17) (Sha.rot y 19)) (y / 1024)) % 4294967296 = Sha.next p := by
              unfold Sha.next
              rw [hpl, ← EX.out, ← EY.out, ← EA.out, ← EB.out]
              show (a + Sha.small0 x + b + Sha.small1 y) % 4294967296 = (a + b + Sha.small0 x + Sha.small1 y) % 4294967296
              omega
            rw [hval]
            refine ⟨k + 1, p ++ [Sha.next p], by omega, by omega, by go_num, ?_, ?_, ?_, ?_, ?_, ?_⟩
            · exact (hB3.out.setCell (p := ⟨w.heap.size + 1, k, none⟩) (by simp) _).drew
            · simpa using hsz3.out
            · simp [hpl]
            · rw [← hwl, show 64 - k = (64 - (k + 1)) + 1 by omega]; rfl
            · rw [heap_drew, heap_setCell_other _ _ _ _ (by simp)]; exact h03.out
            · rw [heap_drew, heap_setCell_same _ _ _ _ _ _ h13.out, u32s_set _ k (64 - k) _ hpl (by omega)]
              rfl
          case measure => simp [intOf]; omega
        · obtain rfl : k = 64 := by omega
          rw [show 64 - 64 = 0 by rfl] at hw h1
          simp only [List.replicate_zero, List.append_nil] at h1
          have hpw : p = Sha.words l := hw
          rw [hpw] at h1
          clear hw hp hlt hk1 hk2
          have h0' := Lib.hid h0
          have h1' := Lib.hid h1
          have hB' := Lib.hid hB
          clear h0 h1 hB
          have hz := Lib.hid hsz
          clear hsz
          go_wp2_with (first | (refine wpList_load_row rfl 40 (.tmp 3) rfl (w.heap.size + 1) rfl 40 _ (0, 0) _ h1'.out Try.underlying40 rfl (by rw [u32s_size, Sha.words_length]; exact infoArr) ?_) | (refine wpList_store_row rfl 40 (.tmp 2) (.tmp 92) rfl w.heap.size (u32s (Sha.words l)) rfl rfl 40 _ h0'.out (by rw [u32s_size, Sha.words_length]; exact infoArr) (by rw [u32s_size, Sha.words_length]; simp) (u32s_one _) ?_))
          refine bodyPost_ret (v := .agg (u32s (Sha.words l))) (results_cell_row rfl _ _ w.heap.size 40 _ (0, 0) _ rfl (setRow_heap _ _ _ _ _ _ h0'.out) Try.underlying40 rfl (by rw [u32s_size, Sha.words_length]; exact infoArr)) rfl ⟨rfl, below_setRow hB'.out (Nat.le_refl _) _⟩
end Go.Proofs.Ytbnlkecjcgknhaa
