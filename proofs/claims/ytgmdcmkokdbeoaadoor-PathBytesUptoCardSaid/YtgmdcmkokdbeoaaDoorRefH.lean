/- The leaf of the reference: RightLeaf. -/
import Derived.Test.YtgmdcmkokdbeoaaDoorRefG
import Derived.Test.YtgmdcmkokdbeoaaDoorPathC
set_option linter.unusedVariables false
namespace Go.Proofs.YtgmdcmkokdbeoaaDoor
open Go.RowKit

section
set_option maxHeartbeats 400000
theorem rl_1 (A0 A1 A2 A3 A4 : Option Addr) (n0 n1 n2 n3 n4 C0 C1 C2 C3 C4 : Nat) (s : Int) (w : World)
    (h : n0 ≠ 32) :
    Calls Tryd.prog 42 #[.agg #[.slice A0 n0 C0, .slice A1 n1 C1, .slice A2 n2 C2, .int .i64 s, .slice A3 n3 C3, .slice A4 n4 C4]] w fun e w' => e = .returned (.bool false) ∧ Kp [] w w' := by
  have u_n0 : (((n0 : Nat) : Int) != 32) = true := by simp; omega
  clear h
  go_enter Tryd.func42, Tryd.ntmps42
  go_wp2
  go_ret
  exact ⟨rfl, by repeat (first | exact Kp.refl _ _ | apply Kp.alloc | apply Kp.drew)⟩
theorem rl_2 (A0 A1 A2 A3 A4 : Option Addr) (n0 n1 n2 n3 n4 C0 C1 C2 C3 C4 : Nat) (s : Int) (w : World)
    (h0 : n0 = 32) (h : n1 ≠ 32) :
    Calls Tryd.prog 42 #[.agg #[.slice A0 n0 C0, .slice A1 n1 C1, .slice A2 n2 C2, .int .i64 s, .slice A3 n3 C3, .slice A4 n4 C4]] w fun e w' => e = .returned (.bool false) ∧ Kp [] w w' := by
  subst h0
  have u_n1 : (((n1 : Nat) : Int) != 32) = true := by simp; omega
  clear h
  go_enter Tryd.func42, Tryd.ntmps42
  go_wp2
  go_ret
  exact ⟨rfl, by repeat (first | exact Kp.refl _ _ | apply Kp.alloc | apply Kp.drew)⟩
theorem rl_3 (A0 A1 A2 A3 A4 : Option Addr) (n0 n1 n2 n3 n4 C0 C1 C2 C3 C4 : Nat) (s : Int) (w : World)
    (h0 : n0 = 32) (h1 : n1 = 32) (h : n2 = 0) :
    Calls Tryd.prog 42 #[.agg #[.slice A0 n0 C0, .slice A1 n1 C1, .slice A2 n2 C2, .int .i64 s, .slice A3 n3 C3, .slice A4 n4 C4]] w fun e w' => e = .returned (.bool false) ∧ Kp [] w w' := by
  subst h0 h1 h
  go_enter Tryd.func42, Tryd.ntmps42
  go_wp2
  go_ret
  exact ⟨rfl, by repeat (first | exact Kp.refl _ _ | apply Kp.alloc | apply Kp.drew)⟩
theorem rl_4 (A0 A1 A2 A3 A4 : Option Addr) (n0 n1 n2 n3 n4 C0 C1 C2 C3 C4 : Nat) (s : Int) (w : World)
    (h0 : n0 = 32) (h1 : n1 = 32) (h : 64 < n2) :
    Calls Tryd.prog 42 #[.agg #[.slice A0 n0 C0, .slice A1 n1 C1, .slice A2 n2 C2, .int .i64 s, .slice A3 n3 C3, .slice A4 n4 C4]] w fun e w' => e = .returned (.bool false) ∧ Kp [] w w' := by
  subst h0 h1
  have t1 : decide (((n2 : Int) : Int) < 1) = false := decide_eq_false (by omega)
  have t2 : decide ((64 : Int) < (n2 : Int)) = true := decide_eq_true (by omega)
  clear h
  go_enter Tryd.func42, Tryd.ntmps42
  go_wp2
  go_ret
  exact ⟨rfl, by repeat (first | exact Kp.refl _ _ | apply Kp.alloc | apply Kp.drew)⟩
theorem rl_5 (A0 A1 A2 A3 A4 : Option Addr) (n0 n1 n2 n3 n4 C0 C1 C2 C3 C4 : Nat) (s : Int) (w : World)
    (h0 : n0 = 32) (h1 : n1 = 32) (h2 : 1 ≤ n2 ∧ n2 ≤ 64) (h : s < 1) :
    Calls Tryd.prog 42 #[.agg #[.slice A0 n0 C0, .slice A1 n1 C1, .slice A2 n2 C2, .int .i64 s, .slice A3 n3 C3, .slice A4 n4 C4]] w fun e w' => e = .returned (.bool false) ∧ Kp [] w w' := by
  subst h0 h1
  have t1 : decide (((n2 : Int) : Int) < 1) = false := decide_eq_false (by omega)
  have t2 : decide ((64 : Int) < (n2 : Int)) = false := decide_eq_false (by omega)
  have t3 : decide ((s : Int) < 1) = true := decide_eq_true (by omega)
  clear h h2
  go_enter Tryd.func42, Tryd.ntmps42
  go_wp2
  go_ret
  exact ⟨rfl, by repeat (first | exact Kp.refl _ _ | apply Kp.alloc | apply Kp.drew)⟩
theorem rl_6 (A0 A1 A2 A3 A4 : Option Addr) (n0 n1 n2 n3 n4 C0 C1 C2 C3 C4 : Nat) (s : Int) (w : World)
    (h0 : n0 = 32) (h1 : n1 = 32) (h2 : 1 ≤ n2 ∧ n2 ≤ 64) (h : 3 < s) :
    Calls Tryd.prog 42 #[.agg #[.slice A0 n0 C0, .slice A1 n1 C1, .slice A2 n2 C2, .int .i64 s, .slice A3 n3 C3, .slice A4 n4 C4]] w fun e w' => e = .returned (.bool false) ∧ Kp [] w w' := by
  subst h0 h1
  have t1 : decide (((n2 : Int) : Int) < 1) = false := decide_eq_false (by omega)
  have t2 : decide ((64 : Int) < (n2 : Int)) = false := decide_eq_false (by omega)
  have t3 : decide ((s : Int) < 1) = false := decide_eq_false (by omega)
  have t4 : decide ((3 : Int) < s) = true := decide_eq_true (by omega)
  clear h h2
  go_enter Tryd.func42, Tryd.ntmps42
  go_wp2
  go_ret
  exact ⟨rfl, by repeat (first | exact Kp.refl _ _ | apply Kp.alloc | apply Kp.drew)⟩
theorem rl_7 (A0 A1 A2 A3 A4 : Option Addr) (n0 n1 n2 n3 n4 C0 C1 C2 C3 C4 : Nat) (s : Int) (w : World)
    (h0 : n0 = 32) (h1 : n1 = 32) (h2 : 1 ≤ n2 ∧ n2 ≤ 64) (h3 : 1 ≤ s ∧ s ≤ 3) (h : n4 ≠ 64) :
    Calls Tryd.prog 42 #[.agg #[.slice A0 n0 C0, .slice A1 n1 C1, .slice A2 n2 C2, .int .i64 s, .slice A3 n3 C3, .slice A4 n4 C4]] w fun e w' => e = .returned (.bool false) ∧ Kp [] w w' := by
  subst h0 h1
  have t1 : decide (((n2 : Int) : Int) < 1) = false := decide_eq_false (by omega)
  have t2 : decide ((64 : Int) < (n2 : Int)) = false := decide_eq_false (by omega)
  have t3 : decide ((s : Int) < 1) = false := decide_eq_false (by omega)
  have t4 : decide ((3 : Int) < s) = false := decide_eq_false (by omega)
  have u_n4 : (((n4 : Nat) : Int) != 64) = true := by simp; omega
  clear h h2 h3
  go_enter Tryd.func42, Tryd.ntmps42
  go_wp2
  go_ret
  exact ⟨rfl, by repeat (first | exact Kp.refl _ _ | apply Kp.alloc | apply Kp.drew)⟩
theorem rl_8 (A0 A1 A2 A3 A4 : Option Addr) (n0 n1 n2 n3 n4 C0 C1 C2 C3 C4 : Nat) (s : Int) (w : World)
    (h0 : n0 = 32) (h1 : n1 = 32) (h2 : 1 ≤ n2 ∧ n2 ≤ 64) (h3 : 1 ≤ s ∧ s ≤ 3) (h4 : n4 = 64) (h5 : n3 ≠ 0) (h : n3 ≠ 32) :
    Calls Tryd.prog 42 #[.agg #[.slice A0 n0 C0, .slice A1 n1 C1, .slice A2 n2 C2, .int .i64 s, .slice A3 n3 C3, .slice A4 n4 C4]] w fun e w' => e = .returned (.bool false) ∧ Kp [] w w' := by
  subst h0 h1 h4
  have t1 : decide (((n2 : Int) : Int) < 1) = false := decide_eq_false (by omega)
  have t2 : decide ((64 : Int) < (n2 : Int)) = false := decide_eq_false (by omega)
  have t3 : decide ((s : Int) < 1) = false := decide_eq_false (by omega)
  have t4 : decide ((3 : Int) < s) = false := decide_eq_false (by omega)
  have v_n30 : (((n3 : Nat) : Int) == 0) = false := by simp; omega
  have v_n332 : (((n3 : Nat) : Int) == 32) = false := by simp; omega
  clear h h2 h3 h5
  go_enter Tryd.func42, Tryd.ntmps42
  go_wp2
  go_ret
  exact ⟨rfl, by repeat (first | exact Kp.refl _ _ | apply Kp.alloc | apply Kp.drew)⟩
theorem rl_9 (A0 A1 A2 A3 A4 : Option Addr) (n0 n1 n2 n3 n4 C0 C1 C2 C3 C4 : Nat) (s : Int) (w : World)
    (h0 : n0 = 32) (h1 : n1 = 32) (h2 : 1 ≤ n2 ∧ n2 ≤ 64) (h3 : 1 ≤ s ∧ s ≤ 3) (h4 : n4 = 64) (h5 : n3 = 32) (h : s ≠ 3) :
    Calls Tryd.prog 42 #[.agg #[.slice A0 n0 C0, .slice A1 n1 C1, .slice A2 n2 C2, .int .i64 s, .slice A3 n3 C3, .slice A4 n4 C4]] w fun e w' => e = .returned (.bool false) ∧ Kp [] w w' := by
  subst h0 h1 h4 h5
  have t1 : decide (((n2 : Int) : Int) < 1) = false := decide_eq_false (by omega)
  have t2 : decide ((64 : Int) < (n2 : Int)) = false := decide_eq_false (by omega)
  have t3 : decide ((s : Int) < 1) = false := decide_eq_false (by omega)
  have t4 : decide ((3 : Int) < s) = false := decide_eq_false (by omega)
  have v3 : (s == 3) = false := by simp; omega
  clear h h2 h3
  go_enter Tryd.func42, Tryd.ntmps42
  go_wp2
  go_ret
  exact ⟨rfl, by repeat (first | exact Kp.refl _ _ | apply Kp.alloc | apply Kp.drew)⟩
theorem rl_a (A0 A1 A2 A3 A4 : Option Addr) (n0 n1 n2 n3 n4 C0 C1 C2 C3 C4 : Nat) (s : Int) (w : World)
    (h0 : n0 = 32) (h1 : n1 = 32) (h2 : 1 ≤ n2 ∧ n2 ≤ 64) (h3 : 1 ≤ s ∧ s ≤ 3) (h4 : n4 = 64) (h5 : n3 = 0) :
    Calls Tryd.prog 42 #[.agg #[.slice A0 n0 C0, .slice A1 n1 C1, .slice A2 n2 C2, .int .i64 s, .slice A3 n3 C3, .slice A4 n4 C4]] w fun e w' => e = .returned (.bool true) ∧ Kp [] w w' := by
  subst h0 h1 h4 h5
  have t1 : decide (((n2 : Int) : Int) < 1) = false := decide_eq_false (by omega)
  have t2 : decide ((64 : Int) < (n2 : Int)) = false := decide_eq_false (by omega)
  have t3 : decide ((s : Int) < 1) = false := decide_eq_false (by omega)
  have t4 : decide ((3 : Int) < s) = false := decide_eq_false (by omega)
  clear h2 h3
  go_enter Tryd.func42, Tryd.ntmps42
  go_wp2
  go_ret
  exact ⟨rfl, by repeat (first | exact Kp.refl _ _ | apply Kp.alloc | apply Kp.drew)⟩
theorem rl_b (A0 A1 A2 A3 A4 : Option Addr) (n0 n1 n2 n3 n4 C0 C1 C2 C3 C4 : Nat) (s : Int) (w : World)
    (h0 : n0 = 32) (h1 : n1 = 32) (h2 : 1 ≤ n2 ∧ n2 ≤ 64) (h4 : n4 = 64) (h5 : n3 = 32) (h : s = 3) :
    Calls Tryd.prog 42 #[.agg #[.slice A0 n0 C0, .slice A1 n1 C1, .slice A2 n2 C2, .int .i64 s, .slice A3 n3 C3, .slice A4 n4 C4]] w fun e w' => e = .returned (.bool true) ∧ Kp [] w w' := by
  subst h0 h1 h4 h5 h
  have t1 : decide (((n2 : Int) : Int) < 1) = false := decide_eq_false (by omega)
  have t2 : decide ((64 : Int) < (n2 : Int)) = false := decide_eq_false (by omega)
  clear h2
  go_enter Tryd.func42, Tryd.ntmps42
  go_wp2
  go_ret
  exact ⟨rfl, by repeat (first | exact Kp.refl _ _ | apply Kp.alloc | apply Kp.drew)⟩
end
theorem rright_any {w : World} {v : Value} {l : LeafD} (h : LeafV w v l) :
    Calls Tryd.prog 42 #[v] w fun e w' => e = .returned (.bool (decide (rightL l))) ∧ Kp [] w w' := by
  obtain ⟨A0, A1, A2, A3, A4, C0, C1, C2, C3, C4, rfl, -⟩ := h
  have no : ¬ rightL l → decide (rightL l) = false := decide_eq_false
  have yes : rightL l → decide (rightL l) = true := decide_eq_true
  unfold rightL at no yes
  by_cases h0 : l.enc.length = 32
  · by_cases h1 : l.sig.length = 32
    · by_cases h2 : 1 ≤ l.name.length ∧ l.name.length ≤ 64
      · by_cases h3 : 1 ≤ l.src ∧ l.src ≤ 3
        · by_cases h4 : l.sgn.length = 64
          · by_cases h5 : l.hash.length = 0
            · rw [show decide (rightL l) = true from yes (by omega)]; exact rl_a A0 A1 A2 A3 A4 _ _ _ _ _ C0 C1 C2 C3 C4 _ w h0 h1 h2 h3 h4 h5
            · by_cases h6 : l.hash.length = 32
              · by_cases h7 : l.src = 3
                · rw [show decide (rightL l) = true from yes (by omega)]; exact rl_b A0 A1 A2 A3 A4 _ _ _ _ _ C0 C1 C2 C3 C4 _ w h0 h1 h2 h4 h6 h7
                · rw [show decide (rightL l) = false from no (by omega)]; exact rl_9 A0 A1 A2 A3 A4 _ _ _ _ _ C0 C1 C2 C3 C4 _ w h0 h1 h2 h3 h4 h6 h7
              · rw [show decide (rightL l) = false from no (by omega)]; exact rl_8 A0 A1 A2 A3 A4 _ _ _ _ _ C0 C1 C2 C3 C4 _ w h0 h1 h2 h3 h4 h5 h6
          · rw [show decide (rightL l) = false from no (by omega)]; exact rl_7 A0 A1 A2 A3 A4 _ _ _ _ _ C0 C1 C2 C3 C4 _ w h0 h1 h2 h3 h4
        · rw [show decide (rightL l) = false from no (by omega)]
          by_cases h4 : l.src < 1
          · exact rl_5 A0 A1 A2 A3 A4 _ _ _ _ _ C0 C1 C2 C3 C4 _ w h0 h1 h2 h4
          · exact rl_6 A0 A1 A2 A3 A4 _ _ _ _ _ C0 C1 C2 C3 C4 _ w h0 h1 h2 (by omega)
      · rw [show decide (rightL l) = false from no (by omega)]
        by_cases h4 : l.name.length = 0
        · exact rl_3 A0 A1 A2 A3 A4 _ _ _ _ _ C0 C1 C2 C3 C4 _ w h0 h1 h4
        · exact rl_4 A0 A1 A2 A3 A4 _ _ _ _ _ C0 C1 C2 C3 C4 _ w h0 h1 (by omega)
    · rw [show decide (rightL l) = false from no (by omega)]; exact rl_2 A0 A1 A2 A3 A4 _ _ _ _ _ C0 C1 C2 C3 C4 _ w h0 h1
  · rw [show decide (rightL l) = false from no (by omega)]; exact rl_1 A0 A1 A2 A3 A4 _ _ _ _ _ C0 C1 C2 C3 C4 _ w h0
end Go.Proofs.YtgmdcmkokdbeoaaDoor
