/- The walks of codec.Reader: Length. -/
import Derived.Test.YtgmdcmkokdbeoaaDoorCodecB
namespace Go.Proofs.YtgmdcmkokdbeoaaDoor
open Go.RowKit

def hd (xs : List UInt8) : Nat := ((xs[0]?).getD 0).toNat
/-- A length: its value, how many bytes it takes, the error. -/
def lnv (xs : List UInt8) : Nat × Nat × Int :=
  if xs.length = 0 then (0, 0, 20)
  else if hd xs / 64 = 0 then (be (xs.take 1) % 64, 1, 0)
  else if hd xs / 64 = 1 then (if xs.length < 2 then (0, 0, 20) else if be (xs.take 2) % 16384 < 64 then (0, 0, 21) else (be (xs.take 2) % 16384, 2, 0))
  else if hd xs / 64 = 2 then (if xs.length < 4 then (0, 0, 20) else if be (xs.take 4) % 1073741824 < 16384 then (0, 0, 21) else (be (xs.take 4) % 1073741824, 4, 0))
  else (0, 0, 21)
def LenPost (r : Nat) (w : World) (v : Int) (xs : List UInt8) (e : Int) (en : Ending) (w' : World) : Prop :=
  en = .returned (.int .i64 v) ∧ Kp [r] w w' ∧ Rd w' r xs e

theorem be_lt (xs : List UInt8) : be xs < 256 ^ xs.length := by
  have h : ∀ (ys : List UInt8) (n : Nat), ys.foldl (fun n c => n * 256 + c.toNat) n < (n + 1) * 256 ^ ys.length := by
    intro ys
    induction ys with
    | nil => intro n; simp
    | cons y ys ih =>
      intro n
      have h1 := ih (n * 256 + y.toNat)
      have h2 := u8_lt y
      simp only [List.foldl_cons, List.length_cons, Nat.pow_succ]
      have h3 : (n * 256 + y.toNat + 1) * 256 ^ ys.length ≤ ((n + 1) * 256) * 256 ^ ys.length := Nat.mul_le_mul_right _ (by omega)
      have e : (n + 1) * (256 ^ ys.length * 256) = ((n + 1) * 256) * 256 ^ ys.length := by rw [Nat.mul_comm (256 ^ ys.length) 256, Nat.mul_assoc]
      rw [e]; omega
  have := h xs 0
  simpa [be] using this

set_option maxHeartbeats 400000 in
theorem len_err {w : World} {r : Nat} {xs : List UInt8} {e : Int} (h : Rd w r xs e) (he : e ≠ 0) :
    Calls Tryd.prog 49 #[.pointer (some ⟨r, 0, none⟩)] w (LenPost r w 0 xs e) := by
  have he1 : (e != 0) = true := by simpa using he
  have hE := err_any h
  go_enter Tryd.func49, Tryd.ntmps49
  go_wp2
  go_step3
  go_wp2_with (go_at_call 48; refine hE.mono ?_; rintro en w' ⟨rfl, rfl⟩)
  rw [Exit.noGoto_ret]
  go_ret
  exact ⟨rfl, Kp.refl _ _, h⟩

/-- No bytes, or too few: size s. -/
theorem len_open {w : World} {r : Nat} {xs : List UInt8} {e : Int} (h : Rd w r xs e) : ∃ a c, Bt w (.slice a xs.length c) xs ∧ w.heap[r]? = some (.cells #[.slice a xs.length c, .int .i64 e, .bool true] 99 (0, 0)) ∧
    (∀ b, (Value.slice a xs.length c).ownBlock = some b → 0 < xs.length → b ∉ [r]) ∧
    w.cell? ⟨r, 0, none⟩ = some (.slice a xs.length c) ∧ w.cell? ⟨r, 1, none⟩ = some (.int .i64 e) ∧ w.frozen? ⟨r, 0, none⟩ = false ∧ w.frozen? ⟨r, 1, none⟩ = false ∧
    xs.length ≤ c ∧ c ≤ 9223372036854775807 ∧ (0 < xs.length → ∃ g o, a = some ⟨g, o, none⟩ ∧ w.cell? ⟨g, o, none⟩ = some (.int .u8 (hd xs : Int))) := by
  obtain ⟨sv, hh, hb⟩ := h
  have hbb := hb
  obtain ⟨⟨a, c, rfl, h1, h2, h3, h4⟩, -⟩ := hb
  refine ⟨a, c, hbb, hh, Rd.ne hh hbb (by simp), by rw [heap_cell hh 0]; rfl, by rw [heap_cell hh 1]; rfl, heap_free hh 0, heap_free hh 1, h1, h2, fun hp => ?_⟩
  obtain ⟨g, o, rfl, hc⟩ := h4 hp
  exact ⟨g, o, rfl, hc 0 hp⟩

set_option maxHeartbeats 400000 in
theorem len_none {w : World} {r : Nat} {xs : List UInt8} (h : Rd w r xs 0) (hl : xs.length = 0) :
    Calls Tryd.prog 49 #[.pointer (some ⟨r, 0, none⟩)] w (LenPost r w 0 xs 20) := by
  have hE := err_any h
  have hz : xs = [] := List.eq_nil_of_length_eq_zero hl
  subst hz
  obtain ⟨a, c, hbb, hh, hne, c0, c1, f0, f1, h1, h2, _⟩ := len_open h
  have H := Lib.hid hh
  clear hh hl
  go_enter Tryd.func49, Tryd.ntmps49
  go_wp2
  refine wp_scope_ahead 0 rfl ?_
  go_wp2_with (go_at_call 48; refine hE.mono ?_; rintro en w' ⟨rfl, rfl⟩)
  go_step3
  refine ⟨rfl, ?_⟩
  go_wp2
  rw [Exit.noGoto_ret]
  go_ret
  exact ⟨rfl, (Kp.refl _ _).setCell _ _ (by simp), _, heap_set H.out 1 _, hbb.keep ((Kp.refl [r] _).setCell ⟨r, 1, none⟩ _ (by simp)) hne⟩

set_option maxHeartbeats 400000 in
theorem len_short {w : World} {r : Nat} {xs : List UInt8} (h : Rd w r xs 0) (t s : Nat) (ht : (t = 1 ∧ s = 2) ∨ (t = 2 ∧ s = 4)) (hl : 0 < xs.length) (hl2 : xs.length < s) (hx : hd xs / 64 = t) :
    Calls Tryd.prog 49 #[.pointer (some ⟨r, 0, none⟩)] w (LenPost r w 0 xs 20) := by
  have hE := err_any h
  obtain ⟨a, c, hbb, hh, hne, c0, c1, f0, f1, h1, h2, h3⟩ := len_open h
  obtain ⟨g, o, rfl, e0⟩ := h3 hl
  have H := Lib.hid hh
  clear hh h3
  rcases ht with ⟨rfl, rfl⟩ | ⟨rfl, rfl⟩
  · have hx' : (hd xs : Int) / 64 = 1 := by omega
    clear hx
    go_enter Tryd.func49, Tryd.ntmps49
    go_wp2
    refine wp_scope_ahead 0 rfl ?_
    go_wp2_with (go_at_call 48; refine hE.mono ?_; rintro en w' ⟨rfl, rfl⟩)
    go_step3
    refine ⟨rfl, ?_⟩
    go_wp2
    rw [Exit.noGoto_ret]
    go_ret
    exact ⟨rfl, (Kp.refl _ _).setCell _ _ (by simp), _, heap_set H.out 1 _, hbb.keep ((Kp.refl [r] _).setCell ⟨r, 1, none⟩ _ (by simp)) hne⟩
  · have hx' : (hd xs : Int) / 64 = 2 := by omega
    clear hx
    go_enter Tryd.func49, Tryd.ntmps49
    go_wp2
    refine wp_scope_ahead 0 rfl ?_
    go_wp2_with (go_at_call 48; refine hE.mono ?_; rintro en w' ⟨rfl, rfl⟩)
    go_step3
    refine ⟨rfl, ?_⟩
    go_wp2
    rw [Exit.noGoto_ret]
    go_ret
    exact ⟨rfl, (Kp.refl _ _).setCell _ _ (by simp), _, heap_set H.out 1 _, hbb.keep ((Kp.refl [r] _).setCell ⟨r, 1, none⟩ _ (by simp)) hne⟩

set_option maxHeartbeats 400000 in
theorem len_three {w : World} {r : Nat} {xs : List UInt8} (h : Rd w r xs 0) (hl : 0 < xs.length) (hx : hd xs / 64 = 3) :
    Calls Tryd.prog 49 #[.pointer (some ⟨r, 0, none⟩)] w (LenPost r w 0 xs 21) := by
  have hE := err_any h
  obtain ⟨a, c, hbb, hh, hne, c0, c1, f0, f1, h1, h2, h3⟩ := len_open h
  obtain ⟨g, o, rfl, e0⟩ := h3 hl
  have H := Lib.hid hh
  clear hh h3
  · have hx' : (hd xs : Int) / 64 = 3 := by omega
    clear hx
    go_enter Tryd.func49, Tryd.ntmps49
    go_wp2
    refine wp_scope_ahead 0 rfl ?_
    go_wp2_with (go_at_call 48; refine hE.mono ?_; rintro en w' ⟨rfl, rfl⟩)
    go_step3
    refine ⟨rfl, ?_⟩
    go_wp2
    rw [Exit.noGoto_ret]
    go_ret
    exact ⟨rfl, (Kp.refl _ _).setCell _ _ (by simp), _, heap_set H.out 1 _, hbb.keep ((Kp.refl [r] _).setCell ⟨r, 1, none⟩ _ (by simp)) hne⟩

theorem and63 (n : Nat) (h : n < 9223372036854775808) : bits .and .i64 (n : Int) 63 = ((n % 64 : Nat) : Int) := by rw [show (63 : Int) = ((63 : Nat) : Int) from rfl, i64_and_nat _ _ h (by omega), nat_mask6]
theorem and14 (n : Nat) (h : n < 9223372036854775808) : bits .and .i64 (n : Int) 16383 = ((n % 16384 : Nat) : Int) := by rw [show (16383 : Int) = ((16383 : Nat) : Int) from rfl, i64_and_nat _ _ h (by omega), nat_mask14]
theorem and30 (n : Nat) (h : n < 9223372036854775808) : bits .and .i64 (n : Int) 1073741823 = ((n % 1073741824 : Nat) : Int) := by
  rw [show (1073741823 : Int) = ((1073741823 : Nat) : Int) from rfl, i64_and_nat _ _ h (by omega)]
  exact congrArg _ (Nat.and_two_pow_sub_one_eq_mod n 30)
theorem be_take_lt (xs : List UInt8) (n : Nat) : be (xs.take n) < 256 ^ n := by
  have h := be_lt (xs.take n)
  have h2 : (xs.take n).length ≤ n := List.length_take_le _ _
  exact Nat.lt_of_lt_of_le h (Nat.pow_le_pow_right (by omega) h2)

set_option maxHeartbeats 400000 in
theorem len_one {w : World} {r : Nat} {xs : List UInt8} (h : Rd w r xs 0) (hl : 0 < xs.length) (hx : hd xs / 64 = 0) :
    Calls Tryd.prog 49 #[.pointer (some ⟨r, 0, none⟩)] w (LenPost r w ((be (xs.take 1) % 64 : Nat) : Int) (xs.drop 1) 0) := by
  have hE := err_any h
  have hbe := be_take_lt xs 1
  have hG : ∀ n, Calls Tryd.prog 69 #[.pointer (some ⟨r, 0, none⟩), .int .i64 1] (w.drewN n) fun en w' => en = .returned (.int .i64 (be (xs.take 1) : Nat)) ∧ w' = w.drewN n :=
    fun n => (get_any (h.kp ((Kp.refl [] w).drewN n)) 1 hl (by omega)).mono fun _ _ h => ⟨h.1, h.2.symm⟩
  obtain ⟨a, c, hbb, hh, hne, c0, c1, f0, f1, h1, h2, h3⟩ := len_open h
  obtain ⟨g, o, rfl, e0⟩ := h3 hl
  have hsl : ∀ w, (Instr.slice 22 (.slice (some ⟨g, o, none⟩) xs.length c) (some (.int .i64 1)) none none).run Tryd.prog w = _ := run_low (P := Tryd.prog) 22 elem_bytes size_bytes (some ⟨g, o, none⟩) xs.length c 1 hl
  have hand := and63 (be (xs.take 1)) (by omega)
  have H := Lib.hid hh
  clear hh h3
  · have hx' : (hd xs : Int) / 64 = 0 := by omega
    clear hx
    go_enter Tryd.func49, Tryd.ntmps49
    go_wp2
    refine wp_scope_ahead 0 rfl ?_
    go_wp2_with (first | (go_at_call 48; refine hE.mono ?_; rintro en w' ⟨rfl, rfl⟩) | (go_at_call 69; refine hG.mono ?_; rintro en w' ⟨rfl, rfl⟩))
    go_quiet ((go_at_call 69; exact Calls.quiet_of_same (hG _)))
    go_wp2
    go_step3
    go_wp2
    rw [jump_ret]
    go_ret
    exact ⟨ret_int (by omega), ((Kp.refl [r] w).drewN nq).setCell _ _ (by simp), _, heap_set (w := w.drewN nq) H.out 0 _, (hbb.low 1 hl).keep (((Kp.refl [r] w).drewN nq).setCell ⟨r, 0, none⟩ _ (by simp)) (fun b hb' hp => hne b (lowA_blk hb') (by omega))⟩

set_option maxHeartbeats 400000 in
theorem len_ok2 {w : World} {r : Nat} {xs : List UInt8} (h : Rd w r xs 0) (hl : 2 ≤ xs.length) (hx : hd xs / 64 = 1) (hm : 64 ≤ be (xs.take 2) % 16384) :
    Calls Tryd.prog 49 #[.pointer (some ⟨r, 0, none⟩)] w (LenPost r w ((be (xs.take 2) % 16384 : Nat) : Int) (xs.drop 2) 0) := by
  have hE := err_any h
  have hbe := be_take_lt xs 2
  have hG : ∀ n, Calls Tryd.prog 69 #[.pointer (some ⟨r, 0, none⟩), .int .i64 2] (w.drewN n) fun en w' => en = .returned (.int .i64 (be (xs.take 2) : Nat)) ∧ w' = w.drewN n :=
    fun n => (get_any (h.kp ((Kp.refl [] w).drewN n)) 2 hl (by omega)).mono fun _ _ h => ⟨h.1, h.2.symm⟩
  obtain ⟨a, c, hbb, hh, hne, c0, c1, f0, f1, h1, h2, h3⟩ := len_open h
  obtain ⟨g, o, rfl, e0⟩ := h3 (by omega)
  have hsl : ∀ w, (Instr.slice 22 (.slice (some ⟨g, o, none⟩) xs.length c) (some (.int .i64 2)) none none).run Tryd.prog w = _ := run_low (P := Tryd.prog) 22 elem_bytes size_bytes (some ⟨g, o, none⟩) xs.length c 2 hl
  have hand := and14 (be (xs.take 2)) (by omega)
  have H := Lib.hid hh
  clear hh h3
  have hx' : (hd xs : Int) / 64 = 1 := by omega
  have ht : (((be (xs.take 2) : Int) % 16384 / 64) == 0) = false := by simp; omega
  clear hx
  · go_enter Tryd.func49, Tryd.ntmps49
    go_wp2
    refine wp_scope_ahead 0 rfl ?_
    go_wp2_with (first | (go_at_call 48; refine hE.mono ?_; rintro en w' ⟨rfl, rfl⟩) | (go_at_call 69; refine hG.mono ?_; rintro en w' ⟨rfl, rfl⟩))
    go_quiet ((go_at_call 69; exact Calls.quiet_of_same (hG _)))
    go_wp2
    go_step3
    go_wp2
    rw [jump_ret]
    go_ret
    exact ⟨ret_int (by omega), ((Kp.refl [r] w).drewN nq).setCell _ _ (by simp), _, heap_set (w := w.drewN nq) H.out 0 _, (hbb.low 2 hl).keep (((Kp.refl [r] w).drewN nq).setCell ⟨r, 0, none⟩ _ (by simp)) (fun b hb' hp => hne b (lowA_blk hb') (by omega))⟩

set_option maxHeartbeats 400000 in
theorem len_no2 {w : World} {r : Nat} {xs : List UInt8} (h : Rd w r xs 0) (hl : 2 ≤ xs.length) (hx : hd xs / 64 = 1) (hm : be (xs.take 2) % 16384 < 64) :
    Calls Tryd.prog 49 #[.pointer (some ⟨r, 0, none⟩)] w (LenPost r w 0 xs 21) := by
  have hE := err_any h
  have hbe := be_take_lt xs 2
  have hG : ∀ n, Calls Tryd.prog 69 #[.pointer (some ⟨r, 0, none⟩), .int .i64 2] (w.drewN n) fun en w' => en = .returned (.int .i64 (be (xs.take 2) : Nat)) ∧ w' = w.drewN n :=
    fun n => (get_any (h.kp ((Kp.refl [] w).drewN n)) 2 hl (by omega)).mono fun _ _ h => ⟨h.1, h.2.symm⟩
  obtain ⟨a, c, hbb, hh, hne, c0, c1, f0, f1, h1, h2, h3⟩ := len_open h
  obtain ⟨g, o, rfl, e0⟩ := h3 (by omega)
  have hsl : ∀ w, (Instr.slice 22 (.slice (some ⟨g, o, none⟩) xs.length c) (some (.int .i64 2)) none none).run Tryd.prog w = _ := run_low (P := Tryd.prog) 22 elem_bytes size_bytes (some ⟨g, o, none⟩) xs.length c 2 hl
  have hand := and14 (be (xs.take 2)) (by omega)
  have H := Lib.hid hh
  clear hh h3
  have hx' : (hd xs : Int) / 64 = 1 := by omega
  have ht : (((be (xs.take 2) : Int) % 16384 / 64) == 0) = true := by simp; omega
  clear hx
  · go_enter Tryd.func49, Tryd.ntmps49
    go_wp2
    refine wp_scope_ahead 0 rfl ?_
    go_wp2_with (first | (go_at_call 48; refine hE.mono ?_; rintro en w' ⟨rfl, rfl⟩) | (go_at_call 69; refine hG.mono ?_; rintro en w' ⟨rfl, rfl⟩))
    go_quiet ((go_at_call 69; exact Calls.quiet_of_same (hG _)))
    go_wp2
    go_step3
    refine ⟨rfl, ?_⟩
    go_wp2
    rw [Exit.noGoto_ret]
    go_ret
    exact ⟨rfl, ((Kp.refl [r] w).drewN nq).setCell _ _ (by simp), _, heap_set (w := w.drewN nq) H.out 1 _, hbb.keep (((Kp.refl [r] w).drewN nq).setCell ⟨r, 1, none⟩ _ (by simp)) hne⟩

set_option maxHeartbeats 400000 in
theorem len_ok4 {w : World} {r : Nat} {xs : List UInt8} (h : Rd w r xs 0) (hl : 4 ≤ xs.length) (hx : hd xs / 64 = 2) (hm : 16384 ≤ be (xs.take 4) % 1073741824) :
    Calls Tryd.prog 49 #[.pointer (some ⟨r, 0, none⟩)] w (LenPost r w ((be (xs.take 4) % 1073741824 : Nat) : Int) (xs.drop 4) 0) := by
  have hE := err_any h
  have hbe := be_take_lt xs 4
  have hG : ∀ n, Calls Tryd.prog 69 #[.pointer (some ⟨r, 0, none⟩), .int .i64 4] (w.drewN n) fun en w' => en = .returned (.int .i64 (be (xs.take 4) : Nat)) ∧ w' = w.drewN n :=
    fun n => (get_any (h.kp ((Kp.refl [] w).drewN n)) 4 hl (by omega)).mono fun _ _ h => ⟨h.1, h.2.symm⟩
  obtain ⟨a, c, hbb, hh, hne, c0, c1, f0, f1, h1, h2, h3⟩ := len_open h
  obtain ⟨g, o, rfl, e0⟩ := h3 (by omega)
  have hsl : ∀ w, (Instr.slice 22 (.slice (some ⟨g, o, none⟩) xs.length c) (some (.int .i64 4)) none none).run Tryd.prog w = _ := run_low (P := Tryd.prog) 22 elem_bytes size_bytes (some ⟨g, o, none⟩) xs.length c 4 hl
  have hand := and30 (be (xs.take 4)) (by omega)
  have H := Lib.hid hh
  clear hh h3
  have hx' : (hd xs : Int) / 64 = 2 := by omega
  have ht : (((be (xs.take 4) : Int) % 1073741824 / 16384) == 0) = false := by simp; omega
  clear hx
  · go_enter Tryd.func49, Tryd.ntmps49
    go_wp2
    refine wp_scope_ahead 0 rfl ?_
    go_wp2_with (first | (go_at_call 48; refine hE.mono ?_; rintro en w' ⟨rfl, rfl⟩) | (go_at_call 69; refine hG.mono ?_; rintro en w' ⟨rfl, rfl⟩))
    go_quiet ((go_at_call 69; exact Calls.quiet_of_same (hG _)))
    go_wp2
    go_step3
    go_wp2
    rw [jump_ret]
    go_ret
    exact ⟨ret_int (by omega), ((Kp.refl [r] w).drewN nq).setCell _ _ (by simp), _, heap_set (w := w.drewN nq) H.out 0 _, (hbb.low 4 hl).keep (((Kp.refl [r] w).drewN nq).setCell ⟨r, 0, none⟩ _ (by simp)) (fun b hb' hp => hne b (lowA_blk hb') (by omega))⟩

set_option maxHeartbeats 400000 in
theorem len_no4 {w : World} {r : Nat} {xs : List UInt8} (h : Rd w r xs 0) (hl : 4 ≤ xs.length) (hx : hd xs / 64 = 2) (hm : be (xs.take 4) % 1073741824 < 16384) :
    Calls Tryd.prog 49 #[.pointer (some ⟨r, 0, none⟩)] w (LenPost r w 0 xs 21) := by
  have hE := err_any h
  have hbe := be_take_lt xs 4
  have hG : ∀ n, Calls Tryd.prog 69 #[.pointer (some ⟨r, 0, none⟩), .int .i64 4] (w.drewN n) fun en w' => en = .returned (.int .i64 (be (xs.take 4) : Nat)) ∧ w' = w.drewN n :=
    fun n => (get_any (h.kp ((Kp.refl [] w).drewN n)) 4 hl (by omega)).mono fun _ _ h => ⟨h.1, h.2.symm⟩
  obtain ⟨a, c, hbb, hh, hne, c0, c1, f0, f1, h1, h2, h3⟩ := len_open h
  obtain ⟨g, o, rfl, e0⟩ := h3 (by omega)
  have hsl : ∀ w, (Instr.slice 22 (.slice (some ⟨g, o, none⟩) xs.length c) (some (.int .i64 4)) none none).run Tryd.prog w = _ := run_low (P := Tryd.prog) 22 elem_bytes size_bytes (some ⟨g, o, none⟩) xs.length c 4 hl
  have hand := and30 (be (xs.take 4)) (by omega)
  have H := Lib.hid hh
  clear hh h3
  have hx' : (hd xs : Int) / 64 = 2 := by omega
  have ht : (((be (xs.take 4) : Int) % 1073741824 / 16384) == 0) = true := by simp; omega
  clear hx
  · go_enter Tryd.func49, Tryd.ntmps49
    go_wp2
    refine wp_scope_ahead 0 rfl ?_
    go_wp2_with (first | (go_at_call 48; refine hE.mono ?_; rintro en w' ⟨rfl, rfl⟩) | (go_at_call 69; refine hG.mono ?_; rintro en w' ⟨rfl, rfl⟩))
    go_quiet ((go_at_call 69; exact Calls.quiet_of_same (hG _)))
    go_wp2
    go_step3
    refine ⟨rfl, ?_⟩
    go_wp2
    rw [Exit.noGoto_ret]
    go_ret
    exact ⟨rfl, ((Kp.refl [r] w).drewN nq).setCell _ _ (by simp), _, heap_set (w := w.drewN nq) H.out 1 _, hbb.keep (((Kp.refl [r] w).drewN nq).setCell ⟨r, 1, none⟩ _ (by simp)) hne⟩

theorem length_any {w : World} {r : Nat} {xs : List UInt8} (h : Rd w r xs 0) :
    Calls Tryd.prog 49 #[.pointer (some ⟨r, 0, none⟩)] w (LenPost r w ((lnv xs).1 : Int) (xs.drop (lnv xs).2.1) (lnv xs).2.2) := by
  have hx : hd xs < 256 := u8_lt _
  unfold lnv
  by_cases h0 : xs.length = 0
  · rw [if_pos h0]; exact len_none (xs := xs) h h0
  rw [if_neg h0]
  by_cases e0 : hd xs / 64 = 0
  · rw [if_pos e0]; exact len_one (xs := xs) h (by omega) e0
  rw [if_neg e0]
  by_cases e1 : hd xs / 64 = 1
  · rw [if_pos e1]
    by_cases l1 : xs.length < 2
    · rw [if_pos l1]; exact len_short (xs := xs) h 1 2 (.inl ⟨rfl, rfl⟩) (by omega) l1 e1
    rw [if_neg l1]
    by_cases m1 : be (xs.take 2) % 16384 < 64
    · rw [if_pos m1]; exact len_no2 (xs := xs) h (by omega) e1 m1
    · rw [if_neg m1]; exact len_ok2 (xs := xs) h (by omega) e1 (by omega)
  rw [if_neg e1]
  by_cases e2 : hd xs / 64 = 2
  · rw [if_pos e2]
    by_cases l1 : xs.length < 4
    · rw [if_pos l1]; exact len_short (xs := xs) h 2 4 (.inr ⟨rfl, rfl⟩) (by omega) l1 e2
    rw [if_neg l1]
    by_cases m1 : be (xs.take 4) % 1073741824 < 16384
    · rw [if_pos m1]; exact len_no4 (xs := xs) h (by omega) e2 m1
    · rw [if_neg m1]; exact len_ok4 (xs := xs) h (by omega) e2 (by omega)
  rw [if_neg e2]
  exact len_three (xs := xs) h (by omega) (by omega)
end Go.Proofs.YtgmdcmkokdbeoaaDoor
