/- The reader of the reference: Number of 1, 2 or 4 bytes. -/
import Derived.Test.YtgmdcmkokdbeoaaDoorRefE
set_option linter.unusedVariables false
namespace Go.Proofs.YtgmdcmkokdbeoaaDoor
open Go.RowKit

section
set_option maxHeartbeats 400000
theorem sized_1 (w : World) : Calls Tryd.prog 76 #[.int .i64 1] w fun e w' => e = .returned (.bool true) ∧ w = w' := by
  go_enter Tryd.func76, Tryd.ntmps76
  go_wp2
  go_ret
  exact ⟨rfl, rfl⟩
theorem sized_2 (w : World) : Calls Tryd.prog 76 #[.int .i64 2] w fun e w' => e = .returned (.bool true) ∧ w = w' := by
  go_enter Tryd.func76, Tryd.ntmps76
  go_wp2
  go_ret
  exact ⟨rfl, rfl⟩
theorem sized_4 (w : World) : Calls Tryd.prog 76 #[.int .i64 4] w fun e w' => e = .returned (.bool true) ∧ w = w' := by
  go_enter Tryd.func76, Tryd.ntmps76
  go_wp2
  go_ret
  exact ⟨rfl, rfl⟩
theorem sized_8 (w : World) : Calls Tryd.prog 76 #[.int .i64 8] w fun e w' => e = .returned (.bool true) ∧ w = w' := by
  go_enter Tryd.func76, Tryd.ntmps76
  go_wp2
  go_ret
  exact ⟨rfl, rfl⟩
end
theorem sized_any (s : Nat) (hs : s = 1 ∨ s = 2 ∨ s = 4 ∨ s = 8) (w : World) : Calls Tryd.prog 76 #[.int .i64 s] w fun e w' => e = .returned (.bool true) ∧ w = w' := by
  rcases hs with rfl | rfl | rfl | rfl
  · exact sized_1 w
  · exact sized_2 w
  · exact sized_4 w
  · exact sized_8 w

/-- A number of s bytes, s below 8. -/
def nk (s : Nat) (xs : List UInt8) (e : Int) : Int × List UInt8 × Int := if e ≠ 0 then (0, xs, e) else if xs.length < s then (0, xs, 20) else ((be (xs.take s) : Nat), xs.drop s, 0)
def QnPost (r : Nat) (w : World) (t : Int × List UInt8 × Int) (en : Ending) (w' : World) : Prop := en = .returned (.int .i64 t.1) ∧ Kp [r] w w' ∧ Rq w' r t.2.1 t.2.2

set_option maxHeartbeats 1000000 in
theorem rnm_err {w : World} {r : Nat} {bs : List UInt8} {pos : Nat} {e : Int} (h : Rr w r bs pos e) (s : Int) (he : e ≠ 0) :
    Calls Tryd.prog 70 #[.pointer (some ⟨r, 0, none⟩), .int .i64 s] w (QnPost r w (0, bs.drop pos, e)) := by
  have h0 := Lib.hid h
  obtain ⟨A, C, c0, c1, c2, f1, f2, n1, n2, H, HB, _⟩ := h.facts
  have t2 : (e != 0) = true := by simpa using he
  clear h he
  go_enter Tryd.func70, Tryd.ntmps70
  go_wp2
  go_ret
  exact ⟨rfl, Kp.refl _ _, h0.out.q⟩

set_option maxHeartbeats 1000000 in
theorem rnm_end {w : World} {r : Nat} {bs : List UInt8} {pos : Nat} (h : Rr w r bs pos 0) (s : Nat) (hs : s = 1 ∨ s = 2 ∨ s = 4 ∨ s = 8) (hn : bs.length - pos < s) :
    Calls Tryd.prog 70 #[.pointer (some ⟨r, 0, none⟩), .int .i64 s] w (QnPost r w (0, bs.drop pos, 20)) := by
  have h0 := Lib.hid h
  have hL := rleft_any h
  have hS := fun w => sized_any s hs w
  obtain ⟨A, C, c0, c1, c2, f1, f2, n1, n2, H, HB, _⟩ := h.facts
  obtain ⟨M, hM⟩ : ∃ M, M = bs.length - pos := ⟨_, rfl⟩
  rw [← hM] at hL
  have t1 : decide (M < s) = true := decide_eq_true (by omega)
  clear h hs hn hM
  go_enter Tryd.func70, Tryd.ntmps70
  go_wp2_with (first | (go_at_call 76; refine (hS _).mono ?_; rintro en w1 ⟨rfl, rfl⟩) | (go_at_call 29; refine hL.mono ?_; rintro en w1 ⟨rfl, q, hq⟩; have kq : Kp [] w w1 := hq ▸ Kp.drewNs q; clear hq; have d2 := kq.get c2 (by simp); have g2 := (kq.frozen (p := ⟨r, 2, none⟩) (heap_lt H.out) (by simp)).trans f2))
  go_ret
  exact ⟨rfl, kq.nil.setCell _ _ (by simp), ((h0.out.kp kq).setErr 20).q⟩

set_option maxHeartbeats 1000000 in
theorem rnm_ok {w : World} {r : Nat} {bs : List UInt8} {pos : Nat} (h : Rr w r bs pos 0) (s : Nat) (hs : s = 1 ∨ s = 2 ∨ s = 4) (hn : s ≤ bs.length - pos) :
    Calls Tryd.prog 70 #[.pointer (some ⟨r, 0, none⟩), .int .i64 s] w (QnPost r w (((be ((bs.drop pos).take s) : Nat) : Int), bs.drop (pos + s), 0)) := by
  have h0 := Lib.hid h
  have hL := rleft_any h
  have hS := fun w => sized_any s (by omega) w
  have hp := h.1
  have hl := h.2.1
  have hbig : be ((bs.drop pos).take s) < 2 ^ 62 := by
    have := be_take_lt (bs.drop pos) s
    rcases hs with rfl | rfl | rfl <;> omega
  have HN := Lib.hid (show ∀ w2, Kp [] w w2 → Calls Tryd.prog 71 #[.pointer (some ⟨r, 0, none⟩), .int .i64 s] w2 fun en w' => en = .returned (.int .i64 (be ((bs.drop pos).take s) : Nat)) ∧ ∃ n, w' = w2.drewN n from fun w2 k => rnum_any (h.kp k) s hn hbig)
  obtain ⟨A, C, c0, c1, c2, f1, f2, n1, n2, H, HB, _⟩ := h.facts
  obtain ⟨M, hM⟩ : ∃ M, M = bs.length - pos := ⟨_, rfl⟩
  obtain ⟨V, hV⟩ : ∃ V, V = be ((bs.drop pos).take s) := ⟨_, rfl⟩
  rw [← hV] at HN ⊢
  rw [← hM] at hL
  have t1 : decide (M < s) = false := decide_eq_false (by omega)
  have t8 : ((s : Int) == 8) = false := by simp; omega
  obtain ⟨q, hq⟩ : ∃ q, q = pos + s := ⟨_, rfl⟩
  rw [← hq]
  have hw : IntKind.i64.wrap ((pos : Int) + (s : Int)) = (q : Int) := by rw [hq]; rw [show (pos : Int) + (s : Int) = ((pos + s : Nat) : Int) by omega]; exact wrap_i64_nat _ (by omega)
  have hqb : q ≤ bs.length := by omega
  have Hqb := Lib.hid hqb
  clear h hs hn hM hV hq hqb n1 n2 hp hl hbig
  go_enter Tryd.func70, Tryd.ntmps70
  go_wp2_with (first | (go_at_call 76; refine (hS _).mono ?_; rintro en w1 ⟨rfl, rfl⟩) | (go_at_call 29; refine hL.mono ?_; rintro en w1 ⟨rfl, m, hm⟩; have kq : Kp [] w w1 := hm ▸ Kp.drewNs m; clear hm; have d1 := kq.get c1 (by simp); have g1 := (kq.frozen (p := ⟨r, 1, none⟩) (heap_lt H.out) (by simp)).trans f1))
  go_quiet (fail)
  have kn : Kp [] w (w1.drewN nq) := kq.drewN nq
  go_wp2_with (go_at_call 71; refine (HN.out _ kn).mono ?_; rintro en w2 ⟨rfl, m2, hm2⟩; have k2 : Kp [] w w2 := kn.trans (hm2 ▸ Kp.drewNs m2); clear hm2; have e1 := k2.get c1 (by simp); have p1 := (k2.frozen (p := ⟨r, 1, none⟩) (heap_lt H.out) (by simp)).trans f1)
  go_ret
  exact ⟨rfl, k2.nil.setCell _ _ (by simp), ((h0.out.kp k2).setPos q Hqb.out).q⟩

theorem qnum_any {w : World} {r : Nat} {xs : List UInt8} {e : Int} (h : Rq w r xs e) (s : Nat) (hs : s = 1 ∨ s = 2 ∨ s = 4) :
    Calls Tryd.prog 70 #[.pointer (some ⟨r, 0, none⟩), .int .i64 s] w (QnPost r w (nk s xs e)) := by
  obtain ⟨bs, pos, h, rfl⟩ := h
  unfold nk
  by_cases he : e = 0
  · subst he
    rw [if_neg (by simp)]
    by_cases hl : bs.length - pos < s
    · rw [if_pos (by rw [List.length_drop]; omega)]
      exact rnm_end h s (by omega) hl
    · rw [if_neg (by rw [List.length_drop]; omega), List.drop_drop]
      exact rnm_ok h s hs (by omega)
  · rw [if_pos he]
    exact rnm_err h s he
end Go.Proofs.YtgmdcmkokdbeoaaDoor
