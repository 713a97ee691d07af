/-
  ShaKnown answers true for every number.
-/
import Derived.Test.YtlhgkmfcfdjngaaKnownSpec
import Derived.Lib.SlBytesConst
namespace Go.Proofs.Ytlhgkmfcfdjngaa
open Go.RowKit Go.Proofs.YtlhgkmfcfdjngaaW.PrintWords Go.Proofs.YtlhgkmfcfdjngaaW.PrintLast Go.Proofs.YtlhgkmfcfdjngaaW.PrintMore
set_option linter.unusedVariables false
set_option linter.unusedSimpArgs false

def sawyerlaw01_ShaKnown.f (a0 : Int) : Option Bool := some true

/-- the bytes of a constant's row -/
theorem rd_const (W : World) (xs : List Int) (fr : Nat × Nat) (hx : xs.length ≤ 9223372036854775807) : Kd.C (Kd.int .u8) (W.alloc (.cells (xs.map (Value.int .u8)).toArray 5 fr)) (some ⟨W.heap.size, 0, none⟩) xs.length xs := by
  refine Kd.C_of_reads (d := (0 : Int)) (h1 := fun _ => rfl) ⟨rfl, hx, fun _ => ⟨_, rfl, fun j hj => ?_⟩⟩
  rw [add_plain, World.cell?_alloc_mark]
  simp [hj]

set_option maxHeartbeats 8000000 in
set_option maxRecDepth 100000 in
theorem sawyerlaw01_ShaKnown.calls (a0 : Int) (r : Bool) (w : World) (h : sawyerlaw01_ShaKnown.f a0 = some r) :
    Calls Try.prog 8 #[.int .i64 a0] w fun e w' => e = .returned (.bool r) ∧ Below w.heap.size w w' := by
  obtain rfl := Option.some.inj h
  clear h
  obtain ⟨da, ha1, ha2⟩ := Known.A
  obtain ⟨db, hb1, hb2⟩ := Known.B
  obtain ⟨dc, hc1, hc2⟩ := Known.C
  have h63 := Known.and63 a0
  have hcb := fun (w : World) (C : Array Value) (n c : Nat) => Lib.run_convert_bytes_const (P := Try.prog) w 24 5 C n c Try.underlying24 Try.underlying5
  have hcb2 : ∀ (w : World) (o : Obj) (C : Array Value) (n c : Nat), (convert 24 24 (.slice (some ⟨w.heap.size + 1, 0, none⟩) n c)).run Try.prog ((w.alloc o).alloc (.cells C 5)) = .ok (.slice (some ⟨w.heap.size + 1, 0, none⟩) n c) ((w.alloc o).alloc (.cells C 5 (C.size, C.size + 1))) := by
    intro w o C n c
    have h := hcb (w.alloc o) C n c
    rw [show (w.alloc o).heap.size = w.heap.size + 1 by simp] at h
    exact h
  have HA1 := Lib.hid ha1
  have HA2 := Lib.hid ha2
  have HB1 := Lib.hid hb1
  have HB2 := Lib.hid hb2
  have HC1 := Lib.hid hc1
  have HC2 := Lib.hid hc2
  clear ha1 ha2 hb1 hb2 hc1 hc2
  have e1 := Known.litA
  have e2 := Known.litB
  have e3 := Known.litC
  generalize Known.hexA = sa at *
  generalize Known.hexB = sb at *
  generalize Known.hexC = sc at *
  have E1 := Lib.hid e1
  have E2 := Lib.hid e2
  have E3 := Lib.hid e3
  clear e1 e2 e3
  obtain ⟨mm, hmm⟩ : ∃ m, m = bits BinOp.and IntKind.i64 a0 63 := ⟨_, rfl⟩
  rw [← hmm] at h63
  obtain ⟨m, rfl⟩ : ∃ m : Nat, mm = m := ⟨mm.toNat, by omega⟩
  have hm : m ≤ 63 := by omega
  have HMM := Lib.hid hmm
  clear hmm h63
  obtain ⟨dd, hd1, hd2⟩ := Known.D m (by omega)
  have HD1 := Lib.hid hd1
  have HD2 := Lib.hid hd2
  clear hd1 hd2
  go_enter Try.func8, Try.ntmps8
  go_wp2_with fail
  refine (sha_Sum.calls (some ⟨w.heap.size, 0, none⟩) 3 [97, 98, 99] da _ (rd_const w [97, 98, 99] (3, 4) (by decide)) (by decide) HA1.out).mono ?_
  rintro e w1 ⟨rfl, hb1⟩
  have G1 := Lib.hid (below_then ((Below.refl w.heap.size w).alloc (Nat.le_refl _) _) (by simp) hb1)
  clear hb1
  go_wp2_with fail
  refine (sha_Hex.calls da sa w1 HA2.out).mono ?_
  rintro e w2 ⟨rfl, hb2⟩
  have G2 := Lib.hid (below_then G1.out G1.out.size hb2)
  clear hb2 G1
  go_wp2_with fail
  refine (sha_Sum.calls none 0 [] db w2 (Kd.C_nil _ _) (by decide) HB1.out).mono ?_
  rintro e w3 ⟨rfl, hb3⟩
  have G3 := Lib.hid (below_then G2.out G2.out.size hb3)
  clear hb3 G2
  go_wp2_with fail
  refine (sha_Hex.calls db sb w3 HB2.out).mono ?_
  rintro e w4 ⟨rfl, hb4⟩
  have G4 := Lib.hid (below_then G3.out G3.out.size hb4)
  clear hb4 G3
  go_wp2_with fail
  have hj := Kd.C_alloc (rd_const w4 Known.jefe (4, 5) (by decide)) (.cells (Known.what.map (Value.int .u8)).toArray 5 (28, 29))
  have hw := rd_const (w4.alloc (.cells (Known.jefe.map (Value.int .u8)).toArray 5 (4, 5))) Known.what (28, 29) (by decide)
  rw [show (w4.alloc (.cells (Known.jefe.map (Value.int .u8)).toArray 5 (4, 5))).heap.size = w4.heap.size + 1 by simp] at hw
  refine (sha_Mac.calls (some ⟨w4.heap.size, 0, none⟩) 4 Known.jefe (some ⟨w4.heap.size + 1, 0, none⟩) 28 Known.what dc _ hj (by decide) hw (by decide) HC1.out).mono ?_
  rintro e w5 ⟨rfl, hb5⟩
  have G5 := Lib.hid (below_then ((G4.out.alloc G4.out.size _).alloc (by have := G4.out.size; simp; omega) _) (by have := G4.out.size; simp; omega) hb5)
  clear hb5 G4 hj hw
  go_wp2_with fail
  refine (sha_Hex.calls dc sc w5 HC2.out).mono ?_
  rintro e w6 ⟨rfl, hb6⟩
  have G6 := Lib.hid (below_then G5.out G5.out.size hb6)
  clear hb6 G5
  have hbm : bits BinOp.and IntKind.i64 a0 63 = (m : Int) := HMM.out.symm
  go_wp2_with (first | (refine Kd.R_make (Kd.int .u8) (w0 := w) w.heap.size 5 rfl rfl 24 (.tmp 22) (.tmp 22) rfl (m : Int) rfl rfl Try.underlying24 (.int .u8 0) 1 infoB rfl (by decide) (by decide) (0 : Int) (ok := fun _ => True) (okp := fun _ => False) (show Kd.M (Kd.int .u8) _ _ _ 0 [.int .u8 0] from rfl) (fun _ h => h.elim) trivial (by omega) (by first | omega | (simp; omega)) G6.out G6.out.size ?_; intro v7 w7 ho7 hb7 _ _; obtain ⟨z7, hz7⟩ : ∃ z, z = List.replicate ((m : Int) : Int).toNat (0 : Int) := ⟨_, rfl⟩; rw [← hz7] at ho7; obtain ⟨A7, c7, rfl⟩ := Kd.R_slice ho7; have HO7 := Lib.hid ho7; have G7 := Lib.hid hb7; have HZ7 := Lib.hid hz7; clear ho7 hb7 hz7) | fail)
  have hx7 := rd_const w7 [120] (1, 2) (by decide)
  have hz7 := Kd.C_alloc (Kd.R_reads' HO7.out).2.2 (.cells ([120].map (Value.int .u8)).toArray 5 (1, 2))
  refine (sha_Mac.calls A7 c7 z7 (some ⟨w7.heap.size, 0, none⟩) 1 [120] dd _ hz7 (Kd.R_reads' HO7.out).2.1 hx7 (by decide) (by rw [HZ7.out, Int.toNat_natCast]; exact HD1.out)).mono ?_
  rintro e w8 ⟨rfl, hb8⟩
  have G8 := Lib.hid (below_then (G7.out.alloc G7.out.size _) (by have := G7.out.size; simp; omega) hb8)
  clear hb8 G7 hx7 hz7 HO7 HZ7
  go_wp2_with (first | (refine Kd.R_make (Kd.int .u8) (w0 := w) w.heap.size 5 rfl rfl 24 (.const (.int .i64 64)) (.const (.int .i64 64)) rfl (64 : Int) rfl rfl Try.underlying24 (.int .u8 0) 1 infoB rfl (by decide) (by decide) (0 : Int) (ok := fun _ => True) (okp := fun _ => False) (show Kd.M (Kd.int .u8) _ _ _ 0 [.int .u8 0] from rfl) (fun _ h => h.elim) trivial (by omega) (by first | omega | (simp; omega)) G8.out G8.out.size ?_; intro v9 w9 ho9 hb9 _ _; obtain ⟨z9, hz9⟩ : ∃ z, z = List.replicate ((64 : Int) : Int).toNat (0 : Int) := ⟨_, rfl⟩; rw [← hz9] at ho9; obtain ⟨A9, c9, rfl⟩ := Kd.R_slice ho9; have HO9 := Lib.hid ho9; have G9 := Lib.hid hb9; have HZ9 := Lib.hid hz9; clear ho9 hb9 hz9) | fail)
  have hx9 := rd_const w9 [120] (1, 2) (by decide)
  have hz9 := Kd.C_alloc (Kd.R_reads' HO9.out).2.2 (.cells ([120].map (Value.int .u8)).toArray 5 (1, 2))
  refine (sha_Mac.calls A9 c9 z9 (some ⟨w9.heap.size, 0, none⟩) 1 [120] dd _ hz9 (Kd.R_reads' HO9.out).2.1 hx9 (by decide) (by rw [HZ9.out]; exact HD2.out)).mono ?_
  rintro e w10 ⟨rfl, hb10⟩
  have G10 := Lib.hid (below_then (G9.out.alloc G9.out.size _) (by have := G9.out.size; simp; omega) hb10)
  clear hb10 G9 hx9 hz9 HO9 HZ9
  have t1 := E1.out
  have t2 := E2.out
  have t3 := E3.out
  go_wp2
  go_ret
  refine ⟨?_, G10.out⟩
  rfl
theorem Pure.ShaKnown (a0 : Int) {p : Prop} (w0 : p) : sawyerlaw01_ShaKnown.f a0 = some true := rfl
end Go.Proofs.Ytlhgkmfcfdjngaa
