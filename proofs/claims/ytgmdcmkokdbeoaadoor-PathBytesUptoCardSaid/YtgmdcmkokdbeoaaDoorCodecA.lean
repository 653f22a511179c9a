/- The walks of codec.Reader. -/
import Derived.Test.YtgmdcmkokdbeoaaDoorBase
import Derived.Test.YtgmdcmkokdbeoaaDoorNum
namespace Go.Proofs.YtgmdcmkokdbeoaaDoor
open Go.RowKit

/-- A reader at block r: what is left, and its error. -/
def Rd (w : World) (r : Nat) (xs : List UInt8) (e : Int) : Prop :=
  ∃ sv, w.heap[r]? = some (.cells #[sv, .int .i64 e, .bool true] 99 (0, 0)) ∧ Bt w sv xs

theorem heap_cell {w : World} {r : Nat} {cs : Array Value} {t : TypeId} {f : Nat × Nat} (h : w.heap[r]? = some (.cells cs t f)) (i : Nat) : w.cell? ⟨r, i, none⟩ = cs[i]? := by
  simp [World.cell?, h]
theorem heap_free {w : World} {r : Nat} {cs : Array Value} {t : TypeId} (h : w.heap[r]? = some (.cells cs t (0, 0))) (i : Nat) : w.frozen? ⟨r, i, none⟩ = false := by
  simp [World.frozen?, h]
theorem heap_lt {w : World} {r : Nat} {o : Obj} (h : w.heap[r]? = some o) : r < w.heap.size := (Array.getElem?_eq_some_iff.1 h).1
theorem heap_set {w : World} {r : Nat} {cs : Array Value} {t : TypeId} {f : Nat × Nat} (h : w.heap[r]? = some (.cells cs t f)) (i : Nat) (v : Value) : (w.setCell ⟨r, i, none⟩ v).heap[r]? = some (.cells (cs.setIfInBounds i v) t f) := by
  simp [World.setCell, Array.getElem?_modify, h]

set_option maxHeartbeats 400000 in
theorem err_any {w : World} {r : Nat} {xs : List UInt8} {e : Int} (h : Rd w r xs e) :
    Calls Tryd.prog 48 #[.pointer (some ⟨r, 0, none⟩)] w fun en w' => en = .returned (.int .i64 e) ∧ w = w' := by
  obtain ⟨sv, hh, hb⟩ := h
  have c1 := heap_cell hh 1
  have c2 := heap_cell hh 2
  clear hh hb
  simp at c1 c2
  go_enter Tryd.func48, Tryd.ntmps48
  go_wp2
  go_ret
  exact ⟨rfl, rfl⟩

/-- So many bytes as a number. -/
def be (xs : List UInt8) : Nat := xs.foldl (fun n c => n * 256 + c.toNat) 0

theorem be_snoc (xs : List UInt8) (c : UInt8) : be (xs ++ [c]) = be xs * 256 + c.toNat := by simp [be]
theorem be_mono (xs ys : List UInt8) : be xs ≤ be (xs ++ ys) := by
  induction ys generalizing xs with
  | nil => simp
  | cons y ys ih =>
    have := ih (xs ++ [y])
    rw [be_snoc] at this
    have e : xs ++ [y] ++ ys = xs ++ y :: ys := by simp
    rw [e] at this
    omega
theorem take_snoc (xs : List UInt8) (k : Nat) (h : k < xs.length) : xs.take (k + 1) = xs.take k ++ [(xs[k]?).getD 0] := by
  rw [List.take_add_one, List.getElem?_eq_getElem h]; rfl

set_option maxHeartbeats 400000 in
theorem get_any {w : World} {r : Nat} {xs : List UInt8} {e : Int} (h : Rd w r xs e) (n : Nat) (hn : n ≤ xs.length) (hbig : be (xs.take n) < 2 ^ 62) :
    Calls Tryd.prog 69 #[.pointer (some ⟨r, 0, none⟩), .int .i64 n] w fun en w' => en = .returned (.int .i64 (be (xs.take n) : Nat)) ∧ w = w' := by
  obtain ⟨sv, hh, ⟨a, c, rfl, h1, h2, h3, h4⟩, -⟩ := h
  have c0 := heap_cell hh 0
  simp at c0
  clear hh h3
  go_enter Tryd.func69, Tryd.ntmps69
  go_wp2
  go_loop [5, 15] (fun t i => ∃ k : Nat, k ≤ n ∧ i = .int .i64 k ∧ t = .int .i64 (be (xs.take k) : Nat)) (fun _ i => n - (intOf i).toNat)
  case atStart => exact ⟨0, Nat.zero_le _, rfl, rfl⟩
  case round =>
    obtain ⟨k, hk, rfl, rfl⟩ := hrel
    by_cases hlt : k < n
    · obtain ⟨g, o, rfl, hc⟩ := h4 (by omega)
      have hck := hc k (by omega)
      clear hc h4
      have hb1 : be (xs.take k) < 2 ^ 55 := by
        have h1 := be_mono (xs.take (k + 1)) ((xs.take n).drop (k + 1))
        have e : xs.take (k + 1) ++ (xs.take n).drop (k + 1) = xs.take n := by
          rw [show xs.take (k + 1) = (xs.take n).take (k + 1) by rw [List.take_take]; congr 1; omega]
          exact List.take_append_drop _ _
        rw [e, take_snoc xs k (by omega), be_snoc] at h1
        omega
      have hb2 := u8_lt ((xs[k]?).getD 0)
      go_wp2
      go_round
      case rel => exact ⟨k + 1, by omega, by go_num, by rw [shl8_or' _ _ hb1 hb2, take_snoc xs k (by omega), be_snoc]⟩
      case measure => simp [intOf]; omega
    · have : k = n := by omega
      subst this
      go_wp2
      go_ret
      exact ⟨rfl, rfl⟩

section
set_option maxHeartbeats 400000
theorem bits_1 (w : World) : Calls Tryd.prog 74 #[.int .i64 1] w fun e w' => e = .returned (.int .i64 8) ∧ w = w' := by
  go_enter Tryd.func74, Tryd.ntmps74
  go_wp2
  go_ret
  exact ⟨rfl, rfl⟩
theorem bits_2 (w : World) : Calls Tryd.prog 74 #[.int .i64 2] w fun e w' => e = .returned (.int .i64 16) ∧ w = w' := by
  go_enter Tryd.func74, Tryd.ntmps74
  go_wp2
  go_ret
  exact ⟨rfl, rfl⟩
theorem bits_4 (w : World) : Calls Tryd.prog 74 #[.int .i64 4] w fun e w' => e = .returned (.int .i64 32) ∧ w = w' := by
  go_enter Tryd.func74, Tryd.ntmps74
  go_wp2
  go_ret
  exact ⟨rfl, rfl⟩
theorem bits_8 (w : World) : Calls Tryd.prog 74 #[.int .i64 8] w fun e w' => e = .returned (.int .i64 62) ∧ w = w' := by
  go_enter Tryd.func74, Tryd.ntmps74
  go_wp2
  go_ret
  exact ⟨rfl, rfl⟩
end

/-- The reader's block behind a store. -/
theorem Rd.of {w : World} {r : Nat} {sv : Value} {xs : List UInt8} {e : Int} (h : w.heap[r]? = some (.cells #[sv, .int .i64 e, .bool true] 99 (0, 0))) (hb : Bt w sv xs) : Rd w r xs e := ⟨sv, h, hb⟩
set_option maxHeartbeats 400000 in
theorem num_err {w : World} {r : Nat} {xs : List UInt8} {e : Int} (h : Rd w r xs e) (s : Int) (he : e ≠ 0) :
    Calls Tryd.prog 68 #[.pointer (some ⟨r, 0, none⟩), .int .i64 s] w fun en w' => en = .returned (.int .i64 0) ∧ w = w' := by
  have he1 : (e != 0) = true := by simpa using he
  go_enter Tryd.func68, Tryd.ntmps68
  go_wp2
  go_step3
  go_wp2_with (go_at_call 48; refine (err_any h).mono ?_; rintro en w' ⟨rfl, rfl⟩)
  rw [Exit.noGoto_ret]
  go_ret
  exact ⟨rfl, rfl⟩

def bitsOf (s : Nat) : Int := if s = 8 then 62 else 8 * s
theorem bits_any (s : Nat) (hs : s = 1 ∨ s = 2 ∨ s = 4 ∨ s = 8) (w : World) : Calls Tryd.prog 74 #[.int .i64 s] w fun e w' => e = .returned (.int .i64 (bitsOf s)) ∧ w = w' := by
  rcases hs with rfl | rfl | rfl | rfl
  · exact bits_1 w
  · exact bits_2 w
  · exact bits_4 w
  · exact bits_8 w
theorem bitsOf_pos (s : Nat) : 0 ≤ bitsOf s := by unfold bitsOf; split <;> omega


set_option maxHeartbeats 400000 in
theorem num_end {w : World} {r : Nat} {xs : List UInt8} (h : Rd w r xs 0) (s : Nat) (hs : s = 1 ∨ s = 2 ∨ s = 4 ∨ s = 8) (hl : xs.length < s) :
    Calls Tryd.prog 68 #[.pointer (some ⟨r, 0, none⟩), .int .i64 s] w fun en w' => en = .returned (.int .i64 0) ∧ Kp [r] w w' ∧ Rd w' r xs 20 := by
  have hp := bitsOf_pos s
  have hE := err_any h
  obtain ⟨sv, hh, hb⟩ := h
  have hbb := hb
  obtain ⟨⟨a, c, rfl, h1, h2, h3, h4⟩, -⟩ := hb
  have c0 := heap_cell hh 0
  have c1 := heap_cell hh 1
  have f1 := heap_free hh 1
  simp at c0 c1
  have H := Lib.hid hh
  clear hh h3 h4
  go_enter Tryd.func68, Tryd.ntmps68
  go_wp2
  refine wp_scope_ahead 0 rfl ?_
  go_wp2_with (first | (go_at_call 48; refine hE.mono ?_; rintro en w' ⟨rfl, rfl⟩) | (go_at_call 74; refine (bits_any s hs _).mono ?_; rintro en w' ⟨rfl, rfl⟩))
  go_step3
  refine ⟨rfl, ?_⟩
  go_wp2
  rw [Exit.noGoto_ret]
  go_ret
  refine ⟨rfl, (Kp.refl _ _).setCell _ _ (by simp), ⟨_, heap_set H.out 1 _, ?_⟩⟩
  exact hbb.keep ((Kp.refl [r] _).setCell _ _ (by simp)) (hbb.ne H.out (by intro i k; rcases i with _ | _ | _ | i <;> simp))

set_option maxHeartbeats 400000 in
theorem num_range {w : World} {r : Nat} {xs : List UInt8} (h : Rd w r xs 0) (hl : 8 ≤ xs.length) (hx : 64 ≤ ((xs[0]?).getD 0).toNat) :
    Calls Tryd.prog 68 #[.pointer (some ⟨r, 0, none⟩), .int .i64 8] w fun en w' => en = .returned (.int .i64 0) ∧ Kp [r] w w' ∧ Rd w' r xs 11 := by
  have hE := err_any h
  obtain ⟨sv, hh, hb⟩ := h
  have hbb := hb
  obtain ⟨⟨a, c, rfl, h1, h2, h3, h4⟩, -⟩ := hb
  obtain ⟨g, o, rfl, hc⟩ := h4 (by omega)
  have c0 := heap_cell hh 0
  have c1 := heap_cell hh 1
  have f1 := heap_free hh 1
  have e0 := hc 0 (by omega)
  simp at c0 c1
  simp only [Nat.add_zero] at e0
  have H := Lib.hid hh
  clear hh h3 h4 hc
  go_enter Tryd.func68, Tryd.ntmps68
  go_wp2
  refine wp_scope_ahead 0 rfl ?_
  go_wp2_with (first | (go_at_call 48; refine hE.mono ?_; rintro en w' ⟨rfl, rfl⟩) | (go_at_call 74; refine (bits_8 _).mono ?_; rintro en w' ⟨rfl, rfl⟩))
  go_step3
  refine ⟨rfl, ?_⟩
  go_wp2
  rw [Exit.noGoto_ret]
  go_ret
  refine ⟨rfl, (Kp.refl _ _).setCell _ _ (by simp), ⟨_, heap_set H.out 1 _, ?_⟩⟩
  exact hbb.keep ((Kp.refl [r] _).setCell _ _ (by simp)) (hbb.ne H.out (by intro i k; rcases i with _ | _ | _ | i <;> simp))

theorem elem_bytes : Tryd.prog.underlying 22 = some (.slice (Tryd.prog.elem 22)) := by kernel_rfl
theorem size_bytes (w : World) : (sizeOf (Tryd.prog.elem 22)).run Tryd.prog w = .ok 1 w := by kernel_rfl
set_option maxHeartbeats 400000 in
theorem num_ok {w : World} {r : Nat} {xs : List UInt8} (h : Rd w r xs 0) (s : Nat) (hs : s = 1 ∨ s = 2 ∨ s = 4 ∨ s = 8) (hl : s ≤ xs.length) (hx : s = 8 → ((xs[0]?).getD 0).toNat < 64) (hbig : be (xs.take s) < 2 ^ 62) :
    Calls Tryd.prog 68 #[.pointer (some ⟨r, 0, none⟩), .int .i64 s] w fun en w' => en = .returned (.int .i64 (be (xs.take s) : Nat)) ∧ Kp [r] w w' ∧ Rd w' r (xs.drop s) 0 := by
  have hp := bitsOf_pos s
  have hE := err_any h
  have hG := get_any h s hl hbig
  obtain ⟨sv, hh, hb⟩ := h
  have hbb := hb
  obtain ⟨⟨a, c, rfl, h1, h2, h3, h4⟩, -⟩ := hb
  obtain ⟨g, o, rfl, hc⟩ := h4 (by omega)
  have c0 := heap_cell hh 0
  have c1 := heap_cell hh 1
  have f0 := heap_free hh 0
  have e0 := hc 0 (by omega)
  simp at c0 c1
  simp only [Nat.add_zero] at e0
  have H := Lib.hid hh
  clear hh h3 h4 hc
  have hs0 : 0 < s := by omega
  have hbn := hbb.ne H.out (by intro i k; rcases i with _ | _ | _ | i <;> simp)
  have hsl := run_low (P := Tryd.prog) 22 elem_bytes size_bytes (some ⟨g, o, none⟩) xs.length c s hl
  by_cases h8 : s = 8
  · have h8' : ((s : Int) == 8) = true := by simp; omega
    have hx' := hx h8
    clear hx h8
    go_enter Tryd.func68, Tryd.ntmps68
    go_wp2
    refine wp_scope_ahead 0 rfl ?_
    go_wp2_with (first | (go_at_call 48; refine hE.mono ?_; rintro en w' ⟨rfl, rfl⟩) | (go_at_call 74; refine (bits_any s hs _).mono ?_; rintro en w' ⟨rfl, rfl⟩) | (go_at_call 69; refine hG.mono ?_; rintro en w' ⟨rfl, rfl⟩))
    go_step3
    go_wp2
    rw [jump_ret]
    go_ret
    exact ⟨rfl, (Kp.refl _ _).setCell _ _ (by simp), _, heap_set H.out 0 _, (hbb.low s hl).keep ((Kp.refl [r] _).setCell ⟨r, 0, none⟩ _ (by simp)) (fun b hb' hp => hbn b (lowA_block hb') (by omega))⟩
  · have h8' : ((s : Int) == 8) = false := by simp; omega
    clear hx h8
    go_enter Tryd.func68, Tryd.ntmps68
    go_wp2
    refine wp_scope_ahead 0 rfl ?_
    go_wp2_with (first | (go_at_call 48; refine hE.mono ?_; rintro en w' ⟨rfl, rfl⟩) | (go_at_call 74; refine (bits_any s hs _).mono ?_; rintro en w' ⟨rfl, rfl⟩) | (go_at_call 69; refine hG.mono ?_; rintro en w' ⟨rfl, rfl⟩))
    go_step3
    go_wp2
    rw [jump_ret]
    go_ret
    exact ⟨rfl, (Kp.refl _ _).setCell _ _ (by simp), _, heap_set H.out 0 _, (hbb.low s hl).keep ((Kp.refl [r] _).setCell ⟨r, 0, none⟩ _ (by simp)) (fun b hb' hp => hbn b (lowA_block hb') (by omega))⟩
end Go.Proofs.YtgmdcmkokdbeoaaDoor
