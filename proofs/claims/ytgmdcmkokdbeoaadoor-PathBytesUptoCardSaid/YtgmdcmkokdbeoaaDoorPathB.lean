/- A path's looks: the searches. -/
import Derived.Test.YtgmdcmkokdbeoaaDoorPathA
set_option linter.unusedVariables false
namespace Go.Proofs.YtgmdcmkokdbeoaaDoor
open Go.RowKit

theorem any_take_succ {α : Type} (p : α → Bool) (ss : List α) (k : Nat) (x : α) (h : ss[k]? = some x) : (ss.take (k + 1)).any p = ((ss.take k).any p || p x) := by
  rw [List.take_add_one, h]; simp

theorem get_lt {α : Type} {ss : List α} {k : Nat} (h : k < ss.length) : ∃ x, ss[k]? = some x := ⟨ss[k], by simp [h]⟩
def FoundPost (w : World) (b : Bool) (e : Ending) (w' : World) : Prop := ∃ i : Int, e = .returned (.int .i64 i) ∧ Kp [] w w' ∧ decide (0 ≤ i) = b

set_option maxRecDepth 100000 in
set_option maxHeartbeats 1000000 in
theorem index_seals {w : World} {v : Value} {ss : List SealD} (h : SealsV w v ss) :
    Calls Tryd.prog 58 #[v, .func (.func 36) #[] #[]] w (FoundPost w (ss.any sealBad)) := by
  obtain ⟨a, c, rfl, h1, h2, h3⟩ := h.facts
  clear h
  go_enter Tryd.func58, Tryd.ntmps58
  go_wp2
  go_loopw [8] (fun i wr => ∃ k : Nat, k ≤ ss.length ∧ i = .int .i64 k ∧ (ss.take k).any sealBad = false ∧ Kp [] w wr) (fun i _ => ss.length - (intOf i).toNat)
  case atStart => exact ⟨0, Nat.zero_le _, rfl, rfl, Kp.refl _ _⟩
  case round =>
    obtain ⟨k, hk, rfl, hno, hK⟩ := hrel
    by_cases hlt : k < ss.length
    · obtain ⟨g, o, rfl, hc⟩ := h3 (by omega)
      obtain ⟨x, hx⟩ := get_lt hlt
      obtain ⟨A1, C1, A2, C2, d1, d2, ⟨_, _, q1, q2, q3, _⟩, ⟨_, _, r1, r2, r3, _⟩⟩ := hc k x hx
      injection q1 with q1a q1b q1c
      injection r1 with r1a r1b r1c
      subst q1c r1c
      have e1 := hK.get d1 (by simp)
      have e2 := hK.get d2 (by simp)
      have hT := any_take_succ sealBad ss k x hx
      rw [hno, Bool.false_or] at hT
      have hL := fun w => seal_look A1 A2 x.1.length x.2.length C1 C2 w (by omega) (by omega)
      have hB : (!(decide (x.1.length = 32) && decide (x.2.length ≤ 100))) = sealBad x := rfl
      rw [hB] at hL
      have hA : sealBad x = true → ss.any sealBad = true := fun hb => List.any_eq_true.2 ⟨x, List.mem_of_getElem? hx, hb⟩
      clear hc h3 d1 d2 hB q1a q1b r1a r1b
      rcases hsb : sealBad x with _ | _
      · simp only [hsb] at hL hT
        clear hA
        go_wp2_with (go_at_call 36; refine (hL _).mono ?_; rintro en w1 ⟨rfl, k1⟩)
        go_roundw
        case rel => exact ⟨k + 1, by omega, by go_num, hT, hK.trans k1⟩
        case measure => simp [intOf]; omega
      · simp only [hsb] at hL hT
        have hA := hA hsb
        go_wp2_with (go_at_call 36; refine (hL _).mono ?_; rintro en w1 ⟨rfl, k1⟩)
        go_ret
        exact ⟨_, rfl, hK.trans k1, by rw [hA]; simp⟩
    · have : k = ss.length := by omega
      subst this
      rw [List.take_length] at hno
      generalize ss.any sealBad = b at *
      subst hno
      go_wp2
      go_ret
      exact ⟨_, rfl, hK, by decide⟩

theorem contains_seals {w : World} {v : Value} {ss : List SealD} (h : SealsV w v ss) :
    Calls Tryd.prog 35 #[v, .func (.func 36) #[] #[]] w fun e w' => e = .returned (.bool (ss.any sealBad)) ∧ Kp [] w w' := by
  have hI := index_seals h
  obtain ⟨A, C, rfl⟩ := h.shape
  clear h
  generalize ss.any sealBad = b at hI ⊢
  go_enter Tryd.func35, Tryd.ntmps35
  go_wp2_with (go_at_call 58; refine hI.mono ?_; rintro en w1 ⟨i, rfl, hk, hi⟩)
  go_ret
  exact ⟨rfl, hk⟩

/-- A step that is wrong. -/
def stepBad (s : StepD) : Bool := !(decide (s.1.length = 32) && decide (s.2.length ≤ 64)) || s.2.any sealBad
set_option maxHeartbeats 1000000 in
theorem step_look {w : World} {v1 : Value} {x1 : List UInt8} (b1 : Bs w v1 x1) {v2 : Value} {x2 : List SealD} (b2 : SealsV w v2 x2) :
    Calls Tryd.prog 34 #[.agg #[v1, v2]] w fun e w' => e = .returned (.bool (stepBad (x1, x2))) ∧ Kp [] w w' := by
  have hS := b2.facts
  have K0 := Lib.hid (fun vs => (Kp.refl [] w).alloc (.cells #[v1, vs] 54))
  obtain ⟨a2, c2, rfl, hn2, hm2, _⟩ := hS
  obtain ⟨a1, c1, rfl, hn1, hm1, _⟩ := b1
  have hC := contains_seals (b2.kp (K0.out (.slice a2 x2.length c2)))
  unfold stepBad
  clear b2
  by_cases h1 : x1.length = 32
  · rw [h1] at hC K0 ⊢
    by_cases h2 : x2.length ≤ 64
    · have t2 : decide (64 < (x2.length : Int)) = false := by simp; omega
      generalize x2.any sealBad = b at hC ⊢
      go_enter Tryd.func34, Tryd.ntmps34
      go_wp2_with (go_at_call 35; refine hC.mono ?_; rintro en w1 ⟨rfl, k1⟩)
      go_ret
      exact ⟨by simp [h2], (K0.out _).trans k1⟩
    · have t2 : decide (64 < (x2.length : Int)) = true := by simp; omega
      go_enter Tryd.func34, Tryd.ntmps34
      go_wp2
      go_ret
      exact ⟨by simp [h2], K0.out _⟩
  · have t1 : ((x1.length : Int) == 32) = false := by simp; omega
    go_enter Tryd.func34, Tryd.ntmps34
    go_wp2
    go_ret
    exact ⟨by simp [h1], K0.out _⟩

set_option maxRecDepth 100000 in
set_option maxHeartbeats 1000000 in
theorem index_steps {w : World} {v : Value} {ss : List StepD} (h : StepsV w v ss) :
    Calls Tryd.prog 57 #[v, .func (.func 34) #[] #[]] w (FoundPost w (ss.any stepBad)) := by
  obtain ⟨a, c, rfl, h1, h2, h3⟩ := h.facts
  clear h
  go_enter Tryd.func57, Tryd.ntmps57
  go_wp2
  go_loopw [8] (fun i wr => ∃ k : Nat, k ≤ ss.length ∧ i = .int .i64 k ∧ (ss.take k).any stepBad = false ∧ Kp [] w wr) (fun i _ => ss.length - (intOf i).toNat)
  case atStart => exact ⟨0, Nat.zero_le _, rfl, rfl, Kp.refl _ _⟩
  case round =>
    obtain ⟨k, hk, rfl, hno, hK⟩ := hrel
    by_cases hlt : k < ss.length
    · obtain ⟨g, o, rfl, hc⟩ := h3 (by omega)
      obtain ⟨x, hx⟩ := get_lt hlt
      obtain ⟨A1, C1, A2, C2, d1, d2, b1, b2⟩ := hc k x hx
      have e1 := hK.get d1 (by simp)
      have e2 := hK.get d2 (by simp)
      have hT := any_take_succ stepBad ss k x hx
      rw [hno, Bool.false_or] at hT
      have hL := (step_look (b1.kp hK) (b2.kp hK))
      have hA : stepBad x = true → ss.any stepBad = true := fun hb => List.any_eq_true.2 ⟨x, List.mem_of_getElem? hx, hb⟩
      clear hc h3 d1 d2 b1 b2
      rcases hsb : stepBad x with _ | _
      · simp only [hsb] at hL hT
        clear hA
        go_wp2_with (go_at_call 34; refine (hL).mono ?_; rintro en w1 ⟨rfl, k1⟩)
        go_roundw
        case rel => exact ⟨k + 1, by omega, by go_num, hT, hK.trans k1⟩
        case measure => simp [intOf]; omega
      · simp only [hsb] at hL hT
        have hA := hA hsb
        go_wp2_with (go_at_call 34; refine (hL).mono ?_; rintro en w1 ⟨rfl, k1⟩)
        go_ret
        exact ⟨_, rfl, hK.trans k1, by rw [hA]; simp⟩
    · have : k = ss.length := by omega
      subst this
      rw [List.take_length] at hno
      generalize ss.any stepBad = b at *
      subst hno
      go_wp2
      go_ret
      exact ⟨_, rfl, hK, by decide⟩

theorem contains_steps {w : World} {v : Value} {ss : List StepD} (h : StepsV w v ss) :
    Calls Tryd.prog 33 #[v, .func (.func 34) #[] #[]] w fun e w' => e = .returned (.bool (ss.any stepBad)) ∧ Kp [] w w' := by
  have hI := index_steps h
  obtain ⟨A, C, rfl, _⟩ := h.facts
  clear h
  generalize ss.any stepBad = b at hI ⊢
  go_enter Tryd.func33, Tryd.ntmps33
  go_wp2_with (go_at_call 57; refine hI.mono ?_; rintro en w1 ⟨i, rfl, hk, hi⟩)
  go_ret
  exact ⟨rfl, hk⟩
end Go.Proofs.YtgmdcmkokdbeoaaDoor
