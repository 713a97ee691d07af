/-
  Rows of slices that came in: rows of triples (address, length, cap), for BloomOrder's walk.
-/
import Derived.Test.YtojabcadoajbjaaBloomComm
import Derived.Test.YtojabcadoajbjaaAwake7
import Derived.Test.YtojabcadoajbjaaF2
namespace Go.Proofs.Ytojabcadoajbjaa
open Go.RowKit Go.Proofs.YtojabcadoajbjaaW.PrintWords Go.Proofs.YtojabcadoajbjaaW.PrintLast Go.Proofs.YtojabcadoajbjaaW.PrintMore
set_option linter.unusedVariables false
set_option linter.unusedSimpArgs false

abbrev T3 := Option Addr × Nat × Nat
def enc3 (t : T3) : Value := .slice t.1 t.2.1 t.2.2
abbrev k3 : Kd T3 := Kd.scalar enc3 (fun _ => rfl)
/-- a triple leads to a text that can be read -/
def Leads (w : World) (t : T3) (key : List Int) : Prop := t.2.1 = key.length ∧ key.length ≤ t.2.2 ∧ Kd.C (Kd.int .u8) w t.1 key.length key
theorem Leads.below {w w1 : World} {t : T3} {key : List Int} (h : Leads w t key) (hb : Below w.heap.size w w1) : Leads w1 t key := ⟨h.1, h.2.1, Kd.C_below h.2.2 hb⟩
/-- two lists, element by element -/
def All2 (w : World) : List T3 → List (List Int) → Prop
  | [], [] => True
  | t :: ts, k :: ks => Leads w t k ∧ All2 w ts ks
  | _, _ => False
theorem All2.length {w : World} : ∀ {ts : List T3} {ks : List (List Int)}, All2 w ts ks → ts.length = ks.length
  | [], [], _ => rfl
  | t :: ts, k :: ks, h => by simp [All2.length h.2]
theorem All2.below {w w1 : World} (hb : Below w.heap.size w w1) : ∀ {ts : List T3} {ks : List (List Int)}, All2 w ts ks → All2 w1 ts ks
  | [], [], _ => trivial
  | t :: ts, k :: ks, h => ⟨h.1.below hb, All2.below hb h.2⟩
theorem All2.append {w : World} : ∀ {ts us : List T3} {ks js : List (List Int)}, All2 w ts ks → All2 w us js → All2 w (ts ++ us) (ks ++ js)
  | [], us, [], js, _, h => h
  | t :: ts, us, k :: ks, js, h, h2 => ⟨h.1, All2.append h.2 h2⟩
theorem All2.at {w : World} : ∀ {ts : List T3} {ks : List (List Int)}, All2 w ts ks → ∀ (j : Nat) (t : T3) (k : List Int), ts[j]? = some t → ks[j]? = some k → Leads w t k
  | [], [], _, j, t, k, h, _ => by simp at h
  | t :: ts, k :: ks, h, 0, t', k', h1, h2 => by
    simp at h1 h2
    subst h1 h2
    exact h.1
  | t :: ts, k :: ks, h, j + 1, t', k', h1, h2 => All2.at h.2 j t' k' (by simpa using h1) (by simpa using h2)

/-- what is read of the triples is read of the texts -/
theorem C_of_k3 {w : World} {A : Option Addr} {ts : List T3} {ks : List (List Int)} (h : Kd.C k3 w A ts.length ts) (ha : All2 w ts ks) : Kd.C (Kd.slice 5 (Kd.int .u8)) w A ks.length ks := by
  have hl := ha.length
  refine ⟨rfl, by rw [← hl]; exact h.2.1, fun hp => ?_⟩
  obtain ⟨ad, e, hc⟩ := h.2.2 (by omega)
  refine ⟨ad, e, fun j k hj => ?_⟩
  have hjl : j < ts.length := by
    rw [hl]
    exact (List.getElem?_eq_some_iff.1 hj).1
  obtain ⟨c, hcl, hk, hcell⟩ := hc j _ (List.getElem?_eq_getElem hjl)
  have hL := ha.at j _ k (List.getElem?_eq_getElem hjl) hj
  refine ⟨c, hcl, ?_, hcell⟩
  have hce : c = [enc3 ts[j]] := hk
  rw [hce]
  refine ⟨ts[j].1, ts[j].2.2, ?_, hL.2.1, hL.2.2⟩
  rw [enc3, hL.1]

/-- the triples of a row of texts -/
theorem k3_of_C {w : World} {A : Option Addr} {ks : List (List Int)} (h : Kd.C (Kd.slice 5 (Kd.int .u8)) w A ks.length ks) : ∃ ts : List T3, Kd.C k3 w A ts.length ts ∧ All2 w ts ks := by
  obtain ⟨_, hn, hc0⟩ := h
  by_cases hp : 0 < ks.length
  · obtain ⟨ad, rfl, hc⟩ := hc0 hp
    have key : ∀ (m : Nat), m ≤ ks.length → ∃ ts : List T3, ts.length = m ∧ All2 w ts (ks.take m) ∧ ∀ j t, ts[j]? = some t → w.cell? (ad.add j) = some (enc3 t) := by
      intro m
      induction m with
      | zero => intro _; exact ⟨[], rfl, trivial, fun j t ht => by simp at ht⟩
      | succ m ih =>
        intro hm
        obtain ⟨ts, hl, ha, hcell⟩ := ih (by omega)
        obtain ⟨c, hcl, ⟨A', c', rfl, hle, hC⟩, hcc⟩ := hc m _ (List.getElem?_eq_getElem (show m < ks.length by omega))
        refine ⟨ts ++ [(A', (ks[m]).length, c')], by simp [hl], ?_, fun j t ht => ?_⟩
        · rw [List.take_succ_eq_append_getElem (by omega)]
          exact All2.append ha ⟨⟨rfl, hle, hC⟩, trivial⟩
        · by_cases hj : j < ts.length
          · rw [List.getElem?_append_left hj] at ht
            exact hcell j t ht
          · rw [List.getElem?_append_right (by omega)] at ht
            have hj0 : j - ts.length = 0 := by
              cases hjj : j - ts.length with
              | zero => rfl
              | succ q => rw [hjj] at ht; simp at ht
            rw [hj0] at ht
            simp at ht
            subst ht
            have := hcc 0 _ rfl
            rw [show (Kd.slice 5 (Kd.int .u8)).sz = 1 from rfl, Nat.mul_one, Nat.add_zero] at this
            rw [show j = m by omega]
            exact this
    obtain ⟨ts, hl, ha, hcell⟩ := key ks.length (Nat.le_refl _)
    rw [List.take_length] at ha
    refine ⟨ts, ⟨rfl, by omega, fun _ => ⟨ad, rfl, fun j t ht => ⟨[enc3 t], rfl, rfl, fun i u hu => ?_⟩⟩⟩, ha⟩
    have hi : i = 0 := by
      cases i with
      | zero => rfl
      | succ i => simp at hu
    subst hi
    simp at hu
    subst hu
    have := hcell j t ht
    rw [show k3.sz = 1 from rfl, Nat.mul_one, Nat.add_zero]
    exact this
  · have : ks = [] := List.eq_nil_of_length_eq_zero (by omega)
    subst this
    exact ⟨[], ⟨rfl, by simp, fun h => absurd h (Nat.lt_irrefl _)⟩, trivial⟩

theorem infoS : (Try.prog.info? 25).map (fun i => (i.zero, i.size, i.bytes)) = some (some (.slice none 0 0), 1, 24) := by kernel_rfl
abbrev Own3 (w : World) (base : Nat) (v : Value) (ts : List T3) : Prop := Kd.R k3 25 w base (fun _ => True) v ts
section
variable {ops : Array Oper} {rest : List Oper} {o : Oper} {a : Act} {Q : Exit → Act → World → Prop}
theorem app_one3 {w0 W : World} (base : Nat) (hgd : o.guard = none) (s x : Operand)
    (ho : o.op = .call { callee := .builtin .append, args := #[s, x], argTypes := #[22, 22] })
    (v : Value) (xs : List T3) (p : T3) (hs : a.eval s = v) (hx : a.eval x = .slice (some ⟨W.heap.size, 0, none⟩) 1 1)
    (HO : Own3 W base v xs) (HB : Below base w0 W) (hbase : base ≤ W.heap.size) (hl : (xs.length + 1) * 24 ≤ 140737488355328)
    (h : ∀ v1 w1, Own3 w1 base v1 (xs ++ [p]) → Below base w0 w1 → W.grownBy w1 v.ownBlock → (v1.ownBlock = v.ownBlock ∨ ∃ b, v1.ownBlock = some b ∧ W.heap.size ≤ b) → wpList Try.prog ops Q rest (a.put o.dst v1) w1) :
    wpList Try.prog ops Q (o :: rest) a (W.alloc (.cells #[enc3 p] 25)) :=
  Kd.R_append k3 (w0 := w0) base hgd s x 22 25 (.slice none 0 0) 24 ho Try.underlying22 infoS rfl (by decide) (by omega) v xs p [enc3 p] (fun _ => True) (fun _ => False) hs hx rfl (fun _ h => h.elim) (fun _ _ => trivial) HO HB hbase (by simpa using hl) h
end
end Go.Proofs.Ytojabcadoajbjaa
