/- The walks of package nodes: what a leaf must be. -/
import Derived.Test.YtgmdcmkokdbeoaaDoorCodecF
import Derived.Defers
import Derived.Recover
import Derived.Laws.Pointers
namespace Go.Proofs.YtgmdcmkokdbeoaaDoor
open Go.RowKit

def errV (k : Int) : Value := .iface 34 (.int .i64 k)

section
set_option maxHeartbeats 400000
theorem demand_ok (k : Int) (w : World) : Calls Tryd.prog 61 #[.bool true, .int .i64 k] w fun e w' => e = .returned (.tuple #[]) ∧ w = w' := by
  go_enter Tryd.func61, Tryd.ntmps61
  go_wp2
  go_end0
  exact ⟨rfl, rfl⟩
theorem demand_no (k : Int) (w : World) : Calls Tryd.prog 61 #[.bool false, .int .i64 k] w fun e w' => e = .panicked [{ v := errV k, recovered := false }] ∧ w = w' := by
  go_enter Tryd.func61, Tryd.ntmps61
  go_wp2
  exact ⟨rfl, rfl, rfl⟩
theorem size_ok (A : Option Addr) (L C : Nat) (n : Int) (h : (L : Int) = n) (w : World) : Calls Tryd.prog 60 #[.slice A L C, .int .i64 n] w fun e w' => e = .returned (.tuple #[]) ∧ w = w' := by
  have hb : ((L : Int) == n) = true := by simpa using h
  clear h
  go_enter Tryd.func60, Tryd.ntmps60
  go_wp2_with (go_at_call 61; refine (demand_ok _ _).mono ?_; rintro en w' ⟨rfl, rfl⟩)
  go_end0
  exact ⟨rfl, rfl⟩
theorem size_no (A : Option Addr) (L C : Nat) (n : Int) (h : (L : Int) ≠ n) (w : World) : Calls Tryd.prog 60 #[.slice A L C, .int .i64 n] w fun e w' => e = .panicked [{ v := errV 1, recovered := false }] ∧ w = w' := by
  have hb : ((L : Int) == n) = false := by simpa using h
  clear h
  go_enter Tryd.func60, Tryd.ntmps60
  go_wp2_with (go_at_call 61; refine (demand_no _ _).mono ?_; rintro en w' ⟨rfl, rfl⟩)
  exact ⟨rfl, rfl, rfl⟩
end

theorem h32 : ((32 : Nat) : Int) = 32 := rfl

structure LeafD where
  enc : List UInt8
  sig : List UInt8
  name : List UInt8
  src : Int
  hash : List UInt8
  sgn : List UInt8
def rightL (l : LeafD) : Prop :=
  l.enc.length = 32 ∧ l.sig.length = 32 ∧ l.sgn.length = 64 ∧ (1 ≤ l.name.length ∧ l.name.length ≤ 64 ∧ 1 ≤ l.src ∧ l.src ≤ 3) ∧ (l.hash.length = 0 ∨ (l.hash.length = 32 ∧ l.src = 3))
instance (l : LeafD) : Decidable (rightL l) := by unfold rightL; infer_instance

set_option maxHeartbeats 400000 in
theorem right_ok (A0 A1 A2 A3 A4 : Option Addr) (n0 n1 n2 n3 n4 C0 C1 C2 C3 C4 : Nat) (s : Int) (w : World)
    (h0 : n0 = 32) (h1 : n1 = 32) (h4 : n4 = 64) (h2 : 1 ≤ n2 ∧ n2 ≤ 64) (hs : 1 ≤ s ∧ s ≤ 3) (h3 : n3 = 0 ∨ (n3 = 32 ∧ s = 3)) :
    Calls Tryd.prog 39 #[.agg #[.slice A0 n0 C0, .slice A1 n1 C1, .slice A2 n2 C2, .int .i64 s, .slice A3 n3 C3, .slice A4 n4 C4]] w fun e w' => e = .returned (.tuple #[]) ∧ Kp [] w w' := by
  obtain ⟨h21, h22⟩ := h2
  obtain ⟨hs1, hs2⟩ := hs
  have t1 : (1 : Int) ≤ n2 := by omega
  have t2 : (n2 : Int) ≤ 64 := by omega
  subst h0 h1 h4
  have hK := (Kp.refl [] w).alloc (.cells #[.slice A0 32 C0, .slice A1 32 C1, .slice A2 n2 C2, .int .i64 s, .slice A3 n3 C3, .slice A4 64 C4] 29)
  rcases h3 with rfl | ⟨rfl, rfl⟩
  all_goals
    go_enter Tryd.func39, Tryd.ntmps39
    go_wp2_with (first | (go_at_call 61; refine (demand_ok _ _).mono ?_; rintro en w' ⟨rfl, rfl⟩) | (go_at_call 60; refine (size_ok _ _ _ _ (by rfl) _).mono ?_; rintro en w' ⟨rfl, rfl⟩))
    go_end0
    exact ⟨rfl, hK⟩

set_option maxHeartbeats 400000 in
theorem right_src (A0 A1 A2 A3 A4 : Option Addr) (n2 n3 C0 C1 C2 C3 C4 : Nat) (s : Int) (w : World) (a1 : 1 ≤ n2) (a2 : n2 ≤ 64) (a3 : 1 ≤ s) (a4 : 3 < s) :
    Calls Tryd.prog 39 #[.agg #[.slice A0 32 C0, .slice A1 32 C1, .slice A2 n2 C2, .int .i64 s, .slice A3 n3 C3, .slice A4 64 C4]] w fun e w' => e = .panicked [{ v := errV 1, recovered := false }] ∧ Kp [] w w' := by
  have hK := (Kp.refl [] w).alloc (.cells #[.slice A0 32 C0, .slice A1 32 C1, .slice A2 n2 C2, .int .i64 s, .slice A3 n3 C3, .slice A4 64 C4] 29)
  have t1 : (1 : Int) ≤ n2 := by omega
  have t2 : (n2 : Int) ≤ 64 := by omega
  have t3 : decide (s ≤ 3) = false := by simp; omega
  clear a1 a2 a4
  go_enter Tryd.func39, Tryd.ntmps39
  go_wp2_with (first | (go_at_call 61; refine (demand_no _ _).mono ?_; rintro en w' ⟨rfl, rfl⟩) | (go_at_call 60; refine (size_ok _ _ _ _ (by rfl) _).mono ?_; rintro en w' ⟨rfl, rfl⟩))
  exact ⟨rfl, rfl, hK⟩
set_option maxHeartbeats 400000 in
theorem right_src0 (A0 A1 A2 A3 A4 : Option Addr) (n2 n3 C0 C1 C2 C3 C4 : Nat) (s : Int) (w : World) (a1 : 1 ≤ n2) (a2 : n2 ≤ 64) (a3 : s < 1) :
    Calls Tryd.prog 39 #[.agg #[.slice A0 32 C0, .slice A1 32 C1, .slice A2 n2 C2, .int .i64 s, .slice A3 n3 C3, .slice A4 64 C4]] w fun e w' => e = .panicked [{ v := errV 1, recovered := false }] ∧ Kp [] w w' := by
  have hK := (Kp.refl [] w).alloc (.cells #[.slice A0 32 C0, .slice A1 32 C1, .slice A2 n2 C2, .int .i64 s, .slice A3 n3 C3, .slice A4 64 C4] 29)
  have t1 : (1 : Int) ≤ n2 := by omega
  have t2 : (n2 : Int) ≤ 64 := by omega
  have t3 : decide (1 ≤ s) = false := by simp; omega
  clear a1 a2 a3
  go_enter Tryd.func39, Tryd.ntmps39
  go_wp2_with (first | (go_at_call 61; refine (demand_no _ _).mono ?_; rintro en w' ⟨rfl, rfl⟩) | (go_at_call 60; refine (size_ok _ _ _ _ (by rfl) _).mono ?_; rintro en w' ⟨rfl, rfl⟩))
  exact ⟨rfl, rfl, hK⟩
set_option maxHeartbeats 400000 in
theorem right_name (A0 A1 A2 A3 A4 : Option Addr) (n2 n3 C0 C1 C2 C3 C4 : Nat) (s : Int) (w : World) (a1 : 64 < n2) :
    Calls Tryd.prog 39 #[.agg #[.slice A0 32 C0, .slice A1 32 C1, .slice A2 n2 C2, .int .i64 s, .slice A3 n3 C3, .slice A4 64 C4]] w fun e w' => e = .panicked [{ v := errV 1, recovered := false }] ∧ Kp [] w w' := by
  have hK := (Kp.refl [] w).alloc (.cells #[.slice A0 32 C0, .slice A1 32 C1, .slice A2 n2 C2, .int .i64 s, .slice A3 n3 C3, .slice A4 64 C4] 29)
  have t1 : (1 : Int) ≤ n2 := by omega
  have t3 : decide ((n2 : Int) ≤ 64) = false := by simp; omega
  clear a1
  go_enter Tryd.func39, Tryd.ntmps39
  go_wp2_with (first | (go_at_call 61; refine (demand_no _ _).mono ?_; rintro en w' ⟨rfl, rfl⟩) | (go_at_call 60; refine (size_ok _ _ _ _ (by rfl) _).mono ?_; rintro en w' ⟨rfl, rfl⟩))
  exact ⟨rfl, rfl, hK⟩
set_option maxHeartbeats 400000 in
theorem right_name0 (A0 A1 A2 A3 A4 : Option Addr) (n3 C0 C1 C2 C3 C4 : Nat) (s : Int) (w : World)  :
    Calls Tryd.prog 39 #[.agg #[.slice A0 32 C0, .slice A1 32 C1, .slice A2 0 C2, .int .i64 s, .slice A3 n3 C3, .slice A4 64 C4]] w fun e w' => e = .panicked [{ v := errV 1, recovered := false }] ∧ Kp [] w w' := by
  have hK := (Kp.refl [] w).alloc (.cells #[.slice A0 32 C0, .slice A1 32 C1, .slice A2 0 C2, .int .i64 s, .slice A3 n3 C3, .slice A4 64 C4] 29)
  skip
  go_enter Tryd.func39, Tryd.ntmps39
  go_wp2_with (first | (go_at_call 61; refine (demand_no _ _).mono ?_; rintro en w' ⟨rfl, rfl⟩) | (go_at_call 60; refine (size_ok _ _ _ _ (by rfl) _).mono ?_; rintro en w' ⟨rfl, rfl⟩))
  exact ⟨rfl, rfl, hK⟩

set_option maxRecDepth 100000 in
set_option maxHeartbeats 1000000 in
theorem right_no (A0 A1 A2 A3 A4 : Option Addr) (n0 n1 n2 n3 n4 C0 C1 C2 C3 C4 : Nat) (s : Int) (w : World)
    (hn : ¬ (n0 = 32 ∧ n1 = 32 ∧ n4 = 64 ∧ (1 ≤ n2 ∧ n2 ≤ 64 ∧ 1 ≤ s ∧ s ≤ 3) ∧ (n3 = 0 ∨ (n3 = 32 ∧ s = 3)))) :
    Calls Tryd.prog 39 #[.agg #[.slice A0 n0 C0, .slice A1 n1 C1, .slice A2 n2 C2, .int .i64 s, .slice A3 n3 C3, .slice A4 n4 C4]] w fun e w' => e = .panicked [{ v := errV 1, recovered := false }] ∧ Kp [] w w' := by
  have hK := (Kp.refl [] w).alloc (.cells #[.slice A0 n0 C0, .slice A1 n1 C1, .slice A2 n2 C2, .int .i64 s, .slice A3 n3 C3, .slice A4 n4 C4] 29)
  by_cases h0 : n0 = 32
  · subst h0
    by_cases h1 : n1 = 32
    · subst h1
      by_cases h4 : n4 = 64
      · subst h4
        by_cases h2 : 1 ≤ n2 ∧ n2 ≤ 64 ∧ 1 ≤ s ∧ s ≤ 3
        · obtain ⟨h21, h22, hs1, hs2⟩ := h2
          have t1 : (1 : Int) ≤ n2 := by omega
          have t2 : (n2 : Int) ≤ 64 := by omega
          have hz : ¬ n3 = 0 := by intro h; exact hn ⟨rfl, rfl, rfl, ⟨h21, h22, hs1, hs2⟩, .inl h⟩
          have hz1 : ((n3 : Int) == 0) = false := by simp; omega
          have hz2 : ¬ (n3 = 32 ∧ s = 3) := by intro h; exact hn ⟨rfl, rfl, rfl, ⟨h21, h22, hs1, hs2⟩, .inr h⟩
          clear hn hz
          by_cases h3 : n3 = 32
          · subst h3
            have hs3 : (s == 3) = false := by simp; omega
            clear hz2
            go_enter Tryd.func39, Tryd.ntmps39
            go_wp2_with (first | (go_at_call 61; first | ((with_reducible refine (demand_ok _ _).mono ?_); rintro en w' ⟨rfl, rfl⟩) | ((with_reducible refine (demand_no _ _).mono ?_); rintro en w' ⟨rfl, rfl⟩)) | (go_at_call 60; refine (size_ok _ _ _ _ (by rfl) _).mono ?_; rintro en w' ⟨rfl, rfl⟩))
            exact ⟨rfl, rfl, hK⟩
          · have h3' : ((n3 : Int) == 32) = false := by simp; omega
            clear hz2 h3
            go_enter Tryd.func39, Tryd.ntmps39
            go_wp2_with (first | (go_at_call 61; first | ((with_reducible refine (demand_ok _ _).mono ?_); rintro en w' ⟨rfl, rfl⟩) | ((with_reducible refine (demand_no _ _).mono ?_); rintro en w' ⟨rfl, rfl⟩)) | (go_at_call 60; refine (size_ok _ _ _ _ (by rfl) _).mono ?_; rintro en w' ⟨rfl, rfl⟩))
            exact ⟨rfl, rfl, hK⟩
        · clear hn
          by_cases a1 : 1 ≤ n2
          · by_cases a2 : n2 ≤ 64
            · by_cases a3 : 1 ≤ s
              · exact right_src A0 A1 A2 A3 A4 n2 n3 C0 C1 C2 C3 C4 s w a1 a2 a3 (by omega)
              · exact right_src0 A0 A1 A2 A3 A4 n2 n3 C0 C1 C2 C3 C4 s w a1 a2 (by omega)
            · exact right_name A0 A1 A2 A3 A4 n2 n3 C0 C1 C2 C3 C4 s w (by omega)
          · obtain rfl : n2 = 0 := by omega
            exact right_name0 A0 A1 A2 A3 A4 n3 C0 C1 C2 C3 C4 s w
      · have hx : ((n4 : Int)) ≠ 64 := by omega
        clear hn
        go_enter Tryd.func39, Tryd.ntmps39
        go_wp2_with (go_at_call 60; first | ((with_reducible refine (size_no _ _ _ _ hx _).mono ?_); rintro en w' ⟨rfl, rfl⟩) | ((with_reducible refine (size_ok _ _ _ _ h32 _).mono ?_); rintro en w' ⟨rfl, rfl⟩))
        exact ⟨rfl, rfl, hK⟩
    · have hx : ((n1 : Int)) ≠ 32 := by omega
      clear hn
      go_enter Tryd.func39, Tryd.ntmps39
      go_wp2_with (go_at_call 60; first | ((with_reducible refine (size_no _ _ _ _ hx _).mono ?_); rintro en w' ⟨rfl, rfl⟩) | ((with_reducible refine (size_ok _ _ _ _ h32 _).mono ?_); rintro en w' ⟨rfl, rfl⟩))
      exact ⟨rfl, rfl, hK⟩
  · have hx : ((n0 : Int)) ≠ 32 := by omega
    clear hn
    go_enter Tryd.func39, Tryd.ntmps39
    go_wp2_with (go_at_call 60; refine (size_no _ _ _ _ hx _).mono ?_; rintro en w' ⟨rfl, rfl⟩)
    exact ⟨rfl, rfl, hK⟩
end Go.Proofs.YtgmdcmkokdbeoaaDoor
