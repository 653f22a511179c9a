/- The data of a path, as values. path.vectors; a path's looks. -/
import Derived.Test.YtgmdcmkokdbeoaaDoorNodesG
set_option linter.unusedVariables false
namespace Go.Proofs.YtgmdcmkokdbeoaaDoor
open Go.RowKit

inductive All2 {α β : Type} (R : α → β → Prop) : List α → List β → Prop
  | nil : All2 R [] []
  | cons {a b xs ys} : R a b → All2 R xs ys → All2 R (a :: xs) (b :: ys)
theorem All2.len {α β : Type} {R : α → β → Prop} {xs : List α} {ys : List β} (h : All2 R xs ys) : xs.length = ys.length := by
  induction h with
  | nil => rfl
  | cons _ _ ih => simp [ih]
theorem All2.imp {α β : Type} {R T : α → β → Prop} {xs : List α} {ys : List β} (h : All2 R xs ys) (hi : ∀ a b, R a b → T a b) : All2 T xs ys := by
  induction h with
  | nil => exact .nil
  | cons hr _ ih => exact .cons (hi _ _ hr) ih
theorem All2.snoc {α β : Type} {R : α → β → Prop} {xs : List α} {ys : List β} (h : All2 R xs ys) {a : α} {b : β} (hr : R a b) : All2 R (xs ++ [a]) (ys ++ [b]) := by
  induction h with
  | nil => exact .cons hr .nil
  | cons h1 _ ih => exact .cons h1 ih
theorem All2.get {α β : Type} {R : α → β → Prop} {xs : List α} {ys : List β} (h : All2 R xs ys) (i : Nat) {b : β} (hb : ys[i]? = some b) : ∃ a, xs[i]? = some a ∧ R a b := by
  induction h generalizing i with
  | nil => simp at hb
  | cons h1 _ ih =>
    cases i with
    | zero => simp at hb; subst hb; exact ⟨_, rfl, h1⟩
    | succ i => simp at hb; obtain ⟨a, ha, hr⟩ := ih i hb; exact ⟨a, by simpa using ha, hr⟩

/-- Pairs of values, laid flat. -/
def flat2 (ps : List (Value × Value)) : List Value := ps.flatMap fun p => [p.1, p.2]
theorem flat2_len (ps : List (Value × Value)) : (flat2 ps).length = ps.length * 2 := by
  induction ps with
  | nil => rfl
  | cons p r ih => simp only [flat2, List.flatMap_cons, List.length_append, List.length_cons, List.length_nil] at ih ⊢; omega
theorem flat2_snoc (ps : List (Value × Value)) (a b : Value) : flat2 (ps ++ [(a, b)]) = flat2 ps ++ [a, b] := by simp [flat2]
theorem flat2_get {ps : List (Value × Value)} {i : Nat} {p : Value × Value} (h : ps[i]? = some p) : (flat2 ps)[i * 2]? = some p.1 ∧ (flat2 ps)[i * 2 + 1]? = some p.2 := by
  induction ps generalizing i with
  | nil => simp at h
  | cons q r ih =>
    cases i with
    | zero => simp at h; subst h; exact ⟨rfl, rfl⟩
    | succ i =>
      simp at h
      have := ih h
      simp only [flat2, List.flatMap_cons] at this ⊢
      rw [show (i + 1) * 2 = i * 2 + 2 by omega, show i * 2 + 2 + 1 = i * 2 + 1 + 2 by omega]
      simpa using this

theorem Sl.keep {S : List Nat} {w w' : World} {size : Nat} {v : Value} {n : Nat} {us : List Value} (h : Sl w size v n us) (hus : 0 < n → us ≠ []) (k : Kp S w w') (hS : ∀ b, b ∈ S → w.heap.size ≤ b) : Sl w' size v n us := by
  obtain ⟨a, c, rfl, h1, h2, h3, h4, h5⟩ := h
  refine ⟨a, c, rfl, h1, h2, h3, h4, fun hp => ?_⟩
  obtain ⟨g, o, rfl, hc⟩ := h5 hp
  refine ⟨g, o, rfl, fun j u hu => k.get (hc j u hu) (fun hm => ?_)⟩
  have h6 := hS _ hm
  have := World.block_lt_of_cell? w _ (hc j u hu)
  simp at *; omega
theorem Sl.kp {w w' : World} {size : Nat} {v : Value} {n : Nat} {us : List Value} (h : Sl w size v n us) (k : Kp [] w w') : Sl w' size v n us := by
  obtain ⟨a, c, rfl, h1, h2, h3, h4, h5⟩ := h
  refine ⟨a, c, rfl, h1, h2, h3, h4, fun hp => ?_⟩
  obtain ⟨g, o, rfl, hc⟩ := h5 hp
  exact ⟨g, o, rfl, fun j u hu => k.get (hc j u hu) (by simp)⟩

abbrev SealD := List UInt8 × List UInt8
abbrev StepD := List UInt8 × List SealD
/-- A slice of sealed secrets, read. -/
def SealsV (w : World) (v : Value) (ss : List SealD) : Prop := ∃ ps, Sl w 2 v ss.length (flat2 ps) ∧ All2 (fun p s => Bs w p.1 s.1 ∧ Bs w p.2 s.2) ps ss
/-- A slice of steps, read. -/
def StepsV (w : World) (v : Value) (ss : List StepD) : Prop := ∃ ps, Sl w 2 v ss.length (flat2 ps) ∧ All2 (fun p s => Bs w p.1 s.1 ∧ SealsV w p.2 s.2) ps ss
theorem SealsV.kp {w w' : World} {v : Value} {ss : List SealD} (h : SealsV w v ss) (k : Kp [] w w') : SealsV w' v ss := by
  obtain ⟨ps, h1, h2⟩ := h
  exact ⟨ps, h1.kp k, h2.imp fun _ _ ⟨a, b⟩ => ⟨a.kp k, b.kp k⟩⟩
theorem StepsV.kp {w w' : World} {v : Value} {ss : List StepD} (h : StepsV w v ss) (k : Kp [] w w') : StepsV w' v ss := by
  obtain ⟨ps, h1, h2⟩ := h
  exact ⟨ps, h1.kp k, h2.imp fun _ _ ⟨a, b⟩ => ⟨a.kp k, b.kp k⟩⟩
/-- What a slice of sealed secrets looks like, place by place. -/
theorem SealsV.facts {w : World} {v : Value} {ss : List SealD} (h : SealsV w v ss) : ∃ a c, v = .slice a ss.length c ∧ ss.length ≤ c ∧ c ≤ 9223372036854775807 ∧
    (0 < ss.length → ∃ g o, a = some ⟨g, o, none⟩ ∧ ∀ (i : Nat) (x : SealD), ss[i]? = some x → ∃ A1 C1 A2 C2, w.cell? ⟨g, o + i * 2, none⟩ = some (.slice A1 x.1.length C1) ∧ w.cell? ⟨g, o + i * 2 + 1, none⟩ = some (.slice A2 x.2.length C2) ∧
      Bs w (.slice A1 x.1.length C1) x.1 ∧ Bs w (.slice A2 x.2.length C2) x.2) := by
  obtain ⟨ps, ⟨a, c, rfl, h1, h2, h3, h4, h5⟩, h6⟩ := h
  refine ⟨a, c, rfl, h2, h3, fun hp => ?_⟩
  obtain ⟨g, o, rfl, hc⟩ := h5 hp
  refine ⟨g, o, rfl, fun i x hx => ?_⟩
  obtain ⟨p, hpi, b1, b2⟩ := h6.get i hx
  obtain ⟨f1, f2⟩ := flat2_get hpi
  obtain ⟨A1, C1, e1, r1⟩ := b1
  obtain ⟨A2, C2, e2, r2⟩ := b2
  exact ⟨A1, C1, A2, C2, by rw [hc _ _ f1, e1], by rw [Nat.add_assoc, hc _ _ f2, e2], ⟨A1, C1, rfl, r1⟩, ⟨A2, C2, rfl, r2⟩⟩
theorem SealsV.shape {w : World} {v : Value} {ss : List SealD} (h : SealsV w v ss) : ∃ A C, v = .slice A ss.length C := by
  obtain ⟨a, c, h, _⟩ := h.facts; exact ⟨a, c, h⟩
theorem StepsV.facts {w : World} {v : Value} {ss : List StepD} (h : StepsV w v ss) : ∃ a c, v = .slice a ss.length c ∧ ss.length ≤ c ∧ c ≤ 9223372036854775807 ∧
    (0 < ss.length → ∃ g o, a = some ⟨g, o, none⟩ ∧ ∀ (i : Nat) (x : StepD), ss[i]? = some x → ∃ A1 C1 A2 C2, w.cell? ⟨g, o + i * 2, none⟩ = some (.slice A1 x.1.length C1) ∧ w.cell? ⟨g, o + i * 2 + 1, none⟩ = some (.slice A2 x.2.length C2) ∧
      Bs w (.slice A1 x.1.length C1) x.1 ∧ SealsV w (.slice A2 x.2.length C2) x.2) := by
  obtain ⟨ps, ⟨a, c, rfl, h1, h2, h3, h4, h5⟩, h6⟩ := h
  refine ⟨a, c, rfl, h2, h3, fun hp => ?_⟩
  obtain ⟨g, o, rfl, hc⟩ := h5 hp
  refine ⟨g, o, rfl, fun i x hx => ?_⟩
  obtain ⟨p, hpi, b1, b2⟩ := h6.get i hx
  obtain ⟨f1, f2⟩ := flat2_get hpi
  obtain ⟨A1, C1, e1, r1⟩ := b1
  obtain ⟨A2, C2, e2⟩ := b2.shape
  exact ⟨A1, C1, A2, C2, by rw [hc _ _ f1, e1], by rw [Nat.add_assoc, hc _ _ f2, e2], ⟨A1, C1, rfl, r1⟩, e2 ▸ b2⟩

set_option maxHeartbeats 400000 in
theorem pvec_any {w : World} {v : Value} {xss : List (List UInt8)} (h : Bss w v xss) (hm : ∀ x ∈ xss, x.length ≤ 65536) (hn : xss.length ≤ 268435456) :
    Calls Tryd.prog 16 #[v] w fun e w' => ∃ A C, e = .returned (.slice A (joinV xss).length C) ∧ Kp [] w w' ∧ Ob w.heap.size w' (.slice A (joinV xss).length C) (joinV xss) := by
  have hV := vectors_any h hm hn
  clear h
  go_enter Tryd.func16, Tryd.ntmps16
  go_wp2_with (go_at_call 37; refine hV.mono ?_; rintro en w1 ⟨A, C, rfl, hk, ho⟩)
  go_ret
  exact ⟨A, C, rfl, hk, ho⟩

/-- A sealed secret that is wrong. -/
def sealBad (s : SealD) : Bool := !(decide (s.1.length = 32) && decide (s.2.length ≤ 100))
theorem seal_look (A1 A2 : Option Addr) (n1 n2 C1 C2 : Nat) (w : World) (hn1 : n1 ≤ 9223372036854775807) (hn2 : n2 ≤ 9223372036854775807) :
    Calls Tryd.prog 36 #[.agg #[.slice A1 n1 C1, .slice A2 n2 C2]] w fun e w' => e = .returned (.bool (!(decide (n1 = 32) && decide (n2 ≤ 100)))) ∧ Kp [] w w' := by
  have hK := (Kp.refl [] w).alloc (.cells #[.slice A1 n1 C1, .slice A2 n2 C2] 57)
  by_cases h1 : n1 = 32
  · subst h1
    by_cases h2 : n2 ≤ 100
    · have t2 : decide (100 < (n2 : Int)) = false := by simp; omega
      go_enter Tryd.func36, Tryd.ntmps36
      go_wp2
      go_ret
      exact ⟨by simp [h2], hK⟩
    · have t2 : decide (100 < (n2 : Int)) = true := by simp; omega
      go_enter Tryd.func36, Tryd.ntmps36
      go_wp2
      go_ret
      exact ⟨by simp [h2], hK⟩
  · have t1 : ((n1 : Int) == 32) = false := by simp; omega
    go_enter Tryd.func36, Tryd.ntmps36
    go_wp2
    go_ret
    exact ⟨by simp [h1], hK⟩
end Go.Proofs.YtgmdcmkokdbeoaaDoor
