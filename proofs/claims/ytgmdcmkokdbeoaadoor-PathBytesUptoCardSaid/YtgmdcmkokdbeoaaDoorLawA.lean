/- GetPath of the reference, whole; the law's own small functions. -/
import Derived.Test.YtgmdcmkokdbeoaaDoorRefP
import Derived.Test.YtgmdcmkokdbeoaaDoorStr
set_option linter.unusedVariables false
set_option linter.unusedSimpArgs false
namespace Go.Proofs.YtgmdcmkokdbeoaaDoor
open Go.RowKit

theorem rgetPath_any {w : World} {bv : Value} {bs : List UInt8} (hb : Bs w bv bs) (hlen : bs.length ≤ 1099511627776) : Calls Tryd.prog 9 #[bv] w (GetPathRPost w bs) := by
  by_cases h : okLeafR (rA bs).1
  · exact rgetPath_main hb hlen h
  · refine (rgetPath_leaf hb hlen h).mono fun e w' ⟨he, k⟩ => ?_
    rw [he]
    exact GetPathRPost.no (fun h' => h h'.1) k

section
set_option maxHeartbeats 400000
theorem num_any (k : Int) (w : World) : Calls Tryd.prog 10 #[.int .i64 k] w fun e w' => e = .returned (.int .i64 k) ∧ w = w' := by
  go_enter Tryd.func10, Tryd.ntmps10
  go_wp2
  go_ret
  exact ⟨rfl, rfl⟩
theorem copied_any {w : World} {v : Value} {xs : List UInt8} (h : Bs w v xs) (hlen : xs.length ≤ 35184372088832) :
    Calls Tryd.prog 32 #[v] w fun e w' => ∃ A C, e = .returned (.slice A xs.length C) ∧ Kp [] w w' ∧ Ob w.heap.size w' (.slice A xs.length C) xs := by
  have HB := Lib.hid h
  have hbd := build_empty_bytes
  have HO := Lib.hid (Ob.lit (base := w.heap.size) (w := w) (Nat.le_refl _) #[] 0 [] rfl rfl (by omega))
  have HX := Lib.hid (h.kp ((Kp.refl [] w).alloc (.cells #[] 5)))
  obtain ⟨a, c, rfl, -⟩ := h
  go_enter Tryd.func32, Tryd.ntmps32
  go_wp2_with (at_builtin; refine app_b rfl (.tmp 3) (.tmp 4) rfl w.heap.size HO.out HX.out rfl rfl (by simp; omega) (by simp) ?_; intro v1 w1 ho hg _)
  go_ret
  simp only [List.nil_append] at ho
  obtain ⟨A, C, rfl⟩ := ho.shape
  refine ⟨A, C, rfl, ((Kp.refl [] w).alloc _).grown hg ?_, ho⟩
  intro k hk
  exact .inr (by simp [Value.ownBlock] at hk; omega)
end

theorem Bs.cap {w : World} {a : Option Addr} {n c : Nat} {xs : List UInt8} (h : Bs w (.slice a n c) xs) : n = xs.length ∧ xs.length ≤ c ∧ c ≤ 9223372036854775807 := by
  obtain ⟨a', c', he, h1, h2, _⟩ := h
  cases he
  exact ⟨rfl, h1, h2⟩
/-- Bytes with marked room behind them. -/
def LentV (w : World) (v : Value) (xs : List UInt8) : Prop := ∃ A C n, v = .slice A n C ∧ n = xs.length ∧ Bs w (.slice A n C) xs ∧ Bs w (.slice A (xs ++ [201, 202]).length C) (xs ++ [201, 202])
theorem LentV.kp {w w' : World} {v : Value} {xs : List UInt8} (h : LentV w v xs) (k : Kp [] w w') : LentV w' v xs := by
  obtain ⟨A, C, n, rfl, hn, h1, h2⟩ := h
  exact ⟨A, C, n, rfl, hn, h1.kp k, h2.kp k⟩

set_option maxRecDepth 100000 in
set_option maxHeartbeats 1000000 in
theorem lent_any {w : World} {v : Value} {xs : List UInt8} (h : Bs w v xs) (hlen : xs.length ≤ 35184372088832) :
    Calls Tryd.prog 4 #[v] w fun e w' => ∃ A C, e = .returned (.slice A xs.length C) ∧ Kp [] w w' ∧ LentV w' (.slice A xs.length C) xs := by
  have hbd := build_empty_bytes
  have HO := Lib.hid (Ob.lit (base := w.heap.size) (w := w) (Nat.le_refl _) #[] 0 [] rfl rfl (by omega))
  have HX := Lib.hid (h.kp ((Kp.refl [] w).alloc (.cells #[] 5)))
  have HL := Lib.hid hlen
  obtain ⟨a, c, rfl, -⟩ := h
  go_enter Tryd.func4, Tryd.ntmps4
  go_wp2_with (first | (at_builtin; refine app_b rfl (.tmp 4) (.tmp 5) rfl w.heap.size HO.out HX.out rfl rfl (by simp; omega) (by simp) ?_; intro v1 w1 ho hg _; simp only [List.nil_append] at ho; have K1 := Lib.hid (((Kp.refl [] w).alloc (.cells #[] 5)).grown hg (fun k hk => .inr (by simp [Value.ownBlock] at hk; omega))); have HO1 := Lib.hid ho) | (at_builtin; refine app_b rfl (.tmp 7) (.tmp 8) rfl w.heap.size (HO1.out.kp ((Kp.refl [] w1).alloc _) (by simp)) ((Ob.lit (base := w1.heap.size) (w := w1) (Nat.le_refl _) #[.int .u8 201, .int .u8 202] 2 [201, 202] rfl rfl (by omega)).bs) rfl rfl (by have := HL.out; simp; omega) (by have := K1.out.size; simp; omega) ?_; intro v2 w2 ho2 hg2 _; have K2 := Lib.hid ((K1.out.alloc (.cells #[.int .u8 201, .int .u8 202] 5)).grown hg2 (fun k hk => .inr (HO1.out.lt k hk).1)); obtain ⟨A2, C2, rfl⟩ := ho2.shape; have hcap : (xs.length : Int) ≤ (C2 : Int) := by (have := ho2.bs.cap; simp at this; omega)))
  go_ret
  have h2 := ho2.bs.high xs.length (by simp)
  rw [List.take_left] at h2
  exact ⟨A2, C2, rfl, K2.out, A2, C2, _, rfl, rfl, h2, ho2.bs⟩

set_option maxRecDepth 100000 in
set_option maxHeartbeats 1000000 in
theorem stays_any {w : World} {v u : Value} {xs : List UInt8} (h : LentV w v xs) (hu : Bs w u xs) (hlen : xs.length ≤ 35184372088832) :
    Calls Tryd.prog 12 #[v, u] w fun e w' => e = .returned (.bool true) ∧ Kp [] w w' := by
  obtain ⟨A, C, n, rfl, rfl, h1, h2⟩ := h
  have hcap := h2.cap.2
  simp only [List.length_append, List.length_cons, List.length_nil, Nat.zero_add, Nat.reduceAdd] at hcap
  have cu := Lib.hid (fun w' (k : Kp [] w w') => bs_string (hu.kp k))
  have ch := Lib.hid (fun w' (k : Kp [] w w') => bs_string (h1.kp k))
  obtain ⟨a, c, rfl, u1, u2, -⟩ := hu
  obtain ⟨A', C', he, e1, e2, e3, e4⟩ := h2
  cases he
  obtain ⟨g, o, rfl, hc⟩ := e4 (by simp)
  have hi1 := hc xs.length (by simp)
  have hi2 := hc (xs.length + 1) (by simp)
  rw [show (xs ++ [201, 202])[xs.length]? = some 201 by simp] at hi1
  rw [show (xs ++ [201, 202])[xs.length + 1]? = some 202 by simp] at hi2
  have m2 : ((xs ++ [201, 202]).length) = xs.length + 2 := by simp
  simp only [m2] at *
  clear e4 hc h1
  go_enter Tryd.func12, Tryd.ntmps12
  go_wp2
  have i0 : (0 : Int) ≤ (xs.length : Int) := by omega
  have i1 : (xs.length : Int) < (xs.length : Int) + 2 := by omega
  have i2 : (xs.length : Int) + 1 < (xs.length : Int) + 2 := by omega
  have i3 : (xs.length : Int) ≤ (C : Int) := by omega
  have i4 : IntKind.i64.wrap ((xs.length : Int) + 1) = (xs.length : Int) + 1 := by
    rw [show (xs.length : Int) + 1 = ((xs.length + 1 : Nat) : Int) by omega]; exact wrap_i64_nat _ (by omega)
  have q1 : ∀ n, (convert 22 9 (.slice a xs.length c)).run Tryd.prog (w.drewN n) = .ok (.string (strOf xs)) (w.drewN n) := fun n => cu.out _ (Kp.drewNs n)
  have q2 : ∀ n, (convert 22 9 (.slice (some ⟨g, o, none⟩) xs.length C)).run Tryd.prog (w.drewN n) = .ok (.string (strOf xs)) (w.drewN n) := fun n => ch.out _ (Kp.drewNs n)
  go_quiet (fail)
  go_wp2
  go_ret
  exact ⟨by simp, Kp.drewNs _⟩
end Go.Proofs.YtgmdcmkokdbeoaaDoor
