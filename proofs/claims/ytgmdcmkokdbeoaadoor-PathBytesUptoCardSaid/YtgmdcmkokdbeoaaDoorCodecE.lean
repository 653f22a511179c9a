/- The walks of codec's writers: put, Number, Length. -/
import Derived.Test.YtgmdcmkokdbeoaaDoorCodecD
namespace Go.Proofs.YtgmdcmkokdbeoaaDoor
open Go.RowKit

/-- A number in so many bytes, the highest first. -/
def beB : Nat → Nat → List UInt8
  | 0, _ => []
  | s + 1, n => UInt8.ofNat (n / 256 ^ s) :: beB s n
theorem beB_length (s n : Nat) : (beB s n).length = s := by induction s <;> simp [beB, *]
theorem bv_ofNat (n : Nat) : bv (UInt8.ofNat n) = .int .u8 ((n : Int) % 256) := by
  unfold bv
  rw [show ((UInt8.ofNat n).toNat : Int) = ((n % 256 : Nat) : Int) by simp]
  rfl

theorem mk1 : ∀ w : World, (Instr.makeSlice 22 (.int .i64 1) (.int .i64 1)).run Tryd.prog w = .ok (.slice (some ⟨w.heap.size, 0, none⟩) 1 1) (w.alloc (.cells #[.int .u8 0] 5)) := fun _ => by kernel_rfl
theorem beB1 (n : Nat) : (beB 1 n).map bv = [.int .u8 ((n : Int) % 256)] := by
  simp only [beB, List.map_cons, List.map_nil, bv_ofNat]
  simp
set_option maxRecDepth 100000 in
set_option maxHeartbeats 400000 in
theorem put1 (n : Nat) (w : World) : Calls Tryd.prog 73 #[.int .i64 n, .int .i64 1] w fun e w' => ∃ A C, e = .returned (.slice A 1 C) ∧ Kp [] w w' ∧ Ob w.heap.size w' (.slice A 1 C) (beB 1 n) := by
  have hmk := mk1
  go_enter Tryd.func73, Tryd.ntmps73
  go_wp2
  refine wp_loop_rounds 2 ?_
  rw [rounds_succ]
  go_wp2
  rw [rounds_succ]
  go_wp2
  go_ret
  exact ⟨some ⟨w.heap.size, 0, none⟩, 1, rfl, (Kp.refl _ _).alloc _, Ob.lit (Nat.le_refl _) _ 1 (beB 1 n) (beB1 n).symm (beB_length _ _).symm (by omega)⟩

theorem mk2 : ∀ w : World, (Instr.makeSlice 22 (.int .i64 2) (.int .i64 2)).run Tryd.prog w = .ok (.slice (some ⟨w.heap.size, 0, none⟩) 2 2) (w.alloc (.cells #[.int .u8 0, .int .u8 0] 5)) := fun _ => by kernel_rfl
theorem beB2 (n : Nat) : (beB 2 n).map bv = [.int .u8 ((n : Int) / 256 % 256), .int .u8 ((n : Int) % 256)] := by
  simp only [beB, List.map_cons, List.map_nil, bv_ofNat]
  simp
set_option maxRecDepth 100000 in
set_option maxHeartbeats 400000 in
theorem put2 (n : Nat) (w : World) : Calls Tryd.prog 73 #[.int .i64 n, .int .i64 2] w fun e w' => ∃ A C, e = .returned (.slice A 2 C) ∧ Kp [] w w' ∧ Ob w.heap.size w' (.slice A 2 C) (beB 2 n) := by
  have hmk := mk2
  go_enter Tryd.func73, Tryd.ntmps73
  go_wp2
  refine wp_loop_rounds 3 ?_
  rw [rounds_succ]
  go_wp2
  rw [rounds_succ]
  go_wp2
  rw [rounds_succ]
  go_wp2
  go_ret
  exact ⟨some ⟨w.heap.size, 0, none⟩, 2, rfl, (Kp.refl _ _).alloc _, Ob.lit (Nat.le_refl _) _ 2 (beB 2 n) (beB2 n).symm (beB_length _ _).symm (by omega)⟩

theorem mk4 : ∀ w : World, (Instr.makeSlice 22 (.int .i64 4) (.int .i64 4)).run Tryd.prog w = .ok (.slice (some ⟨w.heap.size, 0, none⟩) 4 4) (w.alloc (.cells #[.int .u8 0, .int .u8 0, .int .u8 0, .int .u8 0] 5)) := fun _ => by kernel_rfl
theorem beB4 (n : Nat) : (beB 4 n).map bv = [.int .u8 ((n : Int) / 16777216 % 256), .int .u8 ((n : Int) / 65536 % 256), .int .u8 ((n : Int) / 256 % 256), .int .u8 ((n : Int) % 256)] := by
  simp only [beB, List.map_cons, List.map_nil, bv_ofNat]
  simp
set_option maxRecDepth 100000 in
set_option maxHeartbeats 400000 in
theorem put4 (n : Nat) (w : World) : Calls Tryd.prog 73 #[.int .i64 n, .int .i64 4] w fun e w' => ∃ A C, e = .returned (.slice A 4 C) ∧ Kp [] w w' ∧ Ob w.heap.size w' (.slice A 4 C) (beB 4 n) := by
  have hmk := mk4
  go_enter Tryd.func73, Tryd.ntmps73
  go_wp2
  refine wp_loop_rounds 5 ?_
  rw [rounds_succ]
  go_wp2
  rw [rounds_succ]
  go_wp2
  rw [rounds_succ]
  go_wp2
  rw [rounds_succ]
  go_wp2
  rw [rounds_succ]
  go_wp2
  go_ret
  exact ⟨some ⟨w.heap.size, 0, none⟩, 4, rfl, (Kp.refl _ _).alloc _, Ob.lit (Nat.le_refl _) _ 4 (beB 4 n) (beB4 n).symm (beB_length _ _).symm (by omega)⟩

theorem mk8 : ∀ w : World, (Instr.makeSlice 22 (.int .i64 8) (.int .i64 8)).run Tryd.prog w = .ok (.slice (some ⟨w.heap.size, 0, none⟩) 8 8) (w.alloc (.cells #[.int .u8 0, .int .u8 0, .int .u8 0, .int .u8 0, .int .u8 0, .int .u8 0, .int .u8 0, .int .u8 0] 5)) := fun _ => by kernel_rfl
theorem beB8 (n : Nat) : (beB 8 n).map bv = [.int .u8 ((n : Int) / 72057594037927936 % 256), .int .u8 ((n : Int) / 281474976710656 % 256), .int .u8 ((n : Int) / 1099511627776 % 256), .int .u8 ((n : Int) / 4294967296 % 256), .int .u8 ((n : Int) / 16777216 % 256), .int .u8 ((n : Int) / 65536 % 256), .int .u8 ((n : Int) / 256 % 256), .int .u8 ((n : Int) % 256)] := by
  simp only [beB, List.map_cons, List.map_nil, bv_ofNat]
  simp
set_option maxRecDepth 100000 in
set_option maxHeartbeats 400000 in
theorem put8 (n : Nat) (w : World) : Calls Tryd.prog 73 #[.int .i64 n, .int .i64 8] w fun e w' => ∃ A C, e = .returned (.slice A 8 C) ∧ Kp [] w w' ∧ Ob w.heap.size w' (.slice A 8 C) (beB 8 n) := by
  have hmk := mk8
  go_enter Tryd.func73, Tryd.ntmps73
  go_wp2
  refine wp_loop_rounds 9 ?_
  rw [rounds_succ]
  go_wp2
  rw [rounds_succ]
  go_wp2
  rw [rounds_succ]
  go_wp2
  rw [rounds_succ]
  go_wp2
  rw [rounds_succ]
  go_wp2
  rw [rounds_succ]
  go_wp2
  rw [rounds_succ]
  go_wp2
  rw [rounds_succ]
  go_wp2
  rw [rounds_succ]
  go_wp2
  go_ret
  exact ⟨some ⟨w.heap.size, 0, none⟩, 8, rfl, (Kp.refl _ _).alloc _, Ob.lit (Nat.le_refl _) _ 8 (beB 8 n) (beB8 n).symm (beB_length _ _).symm (by omega)⟩

theorem put_any (s : Nat) (hs : s = 1 ∨ s = 2 ∨ s = 4 ∨ s = 8) (n : Nat) (w : World) : Calls Tryd.prog 73 #[.int .i64 n, .int .i64 s] w fun e w' => ∃ A C, e = .returned (.slice A s C) ∧ Kp [] w w' ∧ Ob w.heap.size w' (.slice A s C) (beB s n) := by
  rcases hs with rfl | rfl | rfl | rfl
  · exact put1 n w
  · exact put2 n w
  · exact put4 n w
  · exact put8 n w

theorem pow_bits (s : Nat) (hs : s = 1 ∨ s = 2 ∨ s = 4 ∨ s = 8) : 0 ≤ bitsOf s ∧ bitsOf s ≤ 62 := by rcases hs with rfl | rfl | rfl | rfl <;> simp [bitsOf]
set_option maxHeartbeats 400000 in
theorem number_ok (s : Nat) (hs : s = 1 ∨ s = 2 ∨ s = 4 ∨ s = 8) (n : Nat) (hn : n < 2 ^ (bitsOf s).toNat) (w : World) :
    Calls Tryd.prog 64 #[.int .i64 n, .int .i64 s] w fun e w' => ∃ A C, e = .returned (.tuple #[.slice A s C, .int .i64 0]) ∧ Kp [] w w' ∧ Ob w.heap.size w' (.slice A s C) (beB s n) := by
  have hb := pow_bits s hs
  have hz : ((n : Int) / 2 ^ (bitsOf s).toNat != 0) = false := by
    have h0 : (n : Int) / 2 ^ (bitsOf s).toNat = 0 := Int.ediv_eq_zero_of_lt (by omega) (by exact_mod_cast hn)
    rw [h0]; rfl
  obtain ⟨hb1, hb2⟩ := hb
  clear hn
  have hP := put_any s hs n
  go_enter Tryd.func64, Tryd.ntmps64
  go_wp2_with (first | (go_at_call 74; refine (bits_any s hs _).mono ?_; rintro en w' ⟨rfl, rfl⟩) | (go_at_call 73; refine (hP _).mono ?_; rintro en w' ⟨A, C, rfl, hk, ho⟩))
  go_ret2
  exact ⟨A, C, rfl, hk, ho⟩

/-- A length in as few bytes as it takes. -/
def lenB (n : Nat) : List UInt8 := if n < 64 then beB 1 n else if n < 16384 then beB 2 (n + 16384) else beB 4 (n + 2147483648)
def LnPost (n : Nat) (w : World) (e : Ending) (w' : World) : Prop := ∃ A C, e = .returned (.tuple #[.slice A (lenB n).length C, .int .i64 0]) ∧ Kp [] w w' ∧ Ob w.heap.size w' (.slice A (lenB n).length C) (lenB n)

theorem or14 (n : Nat) (h : n < 16384) : bits .or .i64 (n : Int) 16384 = ((n + 16384 : Nat) : Int) := by
  rw [show (16384 : Int) = ((16384 : Nat) : Int) from rfl, i64_or_nat _ _ (by omega) (by omega), Nat.or_comm, nat_join 14 _ _ (by omega) (by omega), Nat.add_comm]
theorem or31 (n : Nat) (h : n < 1073741824) : bits .or .i64 (n : Int) 2147483648 = ((n + 2147483648 : Nat) : Int) := by
  rw [show (2147483648 : Int) = ((2147483648 : Nat) : Int) from rfl, i64_or_nat _ _ (by omega) (by omega), Nat.or_comm, nat_join 31 _ _ (by omega) (by omega), Nat.add_comm]
theorem or0 (n : Nat) (h : n < 9223372036854775808) : bits .or .i64 (n : Int) 0 = (n : Int) := by
  rw [show (0 : Int) = ((0 : Nat) : Int) from rfl, i64_or_nat _ _ h (by omega), Nat.or_zero]

set_option maxRecDepth 100000 in
set_option maxHeartbeats 400000 in
theorem lenc_1 (n : Nat) (h : n < 64) (w : World) : Calls Tryd.prog 59 #[.int .i64 n] w fun e w' => ∃ A C, e = .returned (.tuple #[.slice A 1 C, .int .i64 0]) ∧ Kp [] w w' ∧ Ob w.heap.size w' (.slice A 1 C) (beB 1 (n)) := by
  have q0 := or0 n (by omega)
  have e0 : ((n : Int) / 64 == 0) = true := by simp; omega
  have hP := put1 (n)
  go_enter Tryd.func59, Tryd.ntmps59
  go_wp2
  refine wp_loop_rounds 4 ?_
  rw [rounds_succ]
  go_wp2_with (go_at_call 73; refine (hP _).mono ?_; rintro en w' ⟨A, C, rfl, hk, ho⟩)
  go_ret2
  exact ⟨A, C, rfl, hk, ho⟩
set_option maxRecDepth 100000 in
set_option maxHeartbeats 400000 in
theorem lenc_2 (n : Nat) (h1 : 64 ≤ n) (h : n < 16384) (w : World) : Calls Tryd.prog 59 #[.int .i64 n] w fun e w' => ∃ A C, e = .returned (.tuple #[.slice A 2 C, .int .i64 0]) ∧ Kp [] w w' ∧ Ob w.heap.size w' (.slice A 2 C) (beB 2 (n + 16384)) := by
  have q0 := or14 n (by omega)
  have e0 : ((n : Int) / 64 == 0) = false := by simp; omega
  have e1 : ((n : Int) / 16384 == 0) = true := by simp; omega
  have hP := put2 (n + 16384)
  go_enter Tryd.func59, Tryd.ntmps59
  go_wp2
  refine wp_loop_rounds 4 ?_
  rw [rounds_succ]
  go_wp2_with (go_at_call 73; refine (hP _).mono ?_; rintro en w' ⟨A, C, rfl, hk, ho⟩)
  rw [rounds_succ]
  go_wp2_with (go_at_call 73; refine (hP _).mono ?_; rintro en w' ⟨A, C, rfl, hk, ho⟩)
  go_ret2
  exact ⟨A, C, rfl, hk, ho⟩
set_option maxRecDepth 100000 in
set_option maxHeartbeats 400000 in
theorem lenc_4 (n : Nat) (h1 : 16384 ≤ n) (h : n < 1073741824) (w : World) : Calls Tryd.prog 59 #[.int .i64 n] w fun e w' => ∃ A C, e = .returned (.tuple #[.slice A 4 C, .int .i64 0]) ∧ Kp [] w w' ∧ Ob w.heap.size w' (.slice A 4 C) (beB 4 (n + 2147483648)) := by
  have q0 := or31 n (by omega)
  have e0 : ((n : Int) / 64 == 0) = false := by simp; omega
  have e1 : ((n : Int) / 16384 == 0) = false := by simp; omega
  have e2 : ((n : Int) / 1073741824 == 0) = true := by simp; omega
  have hP := put4 (n + 2147483648)
  go_enter Tryd.func59, Tryd.ntmps59
  go_wp2
  refine wp_loop_rounds 4 ?_
  rw [rounds_succ]
  go_wp2_with (go_at_call 73; refine (hP _).mono ?_; rintro en w' ⟨A, C, rfl, hk, ho⟩)
  rw [rounds_succ]
  go_wp2_with (go_at_call 73; refine (hP _).mono ?_; rintro en w' ⟨A, C, rfl, hk, ho⟩)
  rw [rounds_succ]
  go_wp2_with (go_at_call 73; refine (hP _).mono ?_; rintro en w' ⟨A, C, rfl, hk, ho⟩)
  go_ret2
  exact ⟨A, C, rfl, hk, ho⟩
theorem lenc_any (n : Nat) (hn : n < 1073741824) (w : World) : Calls Tryd.prog 59 #[.int .i64 n] w (LnPost n w) := by
  unfold LnPost lenB
  by_cases h6 : n < 64
  · rw [if_pos h6, beB_length]; exact lenc_1 n h6 w
  · rw [if_neg h6]
    by_cases h14 : n < 16384
    · rw [if_pos h14, beB_length]; exact lenc_2 n (by omega) h14 w
    · rw [if_neg h14, beB_length]; exact lenc_4 n (by omega) hn w
theorem lenB_length (n : Nat) : (lenB n).length ≤ 4 := by
  unfold lenB; split
  · simp [beB_length]
  · split <;> simp [beB_length]
end Go.Proofs.YtgmdcmkokdbeoaaDoor
