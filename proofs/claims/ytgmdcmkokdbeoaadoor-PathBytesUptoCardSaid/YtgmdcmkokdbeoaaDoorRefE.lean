/- The reader of the reference: Vector. -/
import Derived.Test.YtgmdcmkokdbeoaaDoorRefD
set_option linter.unusedVariables false
namespace Go.Proofs.YtgmdcmkokdbeoaaDoor
open Go.RowKit

/-- The reference's reader: what is left, the error. -/
def Rq (w : World) (r : Nat) (xs : List UInt8) (e : Int) : Prop := ∃ bs pos, Rr w r bs pos e ∧ bs.drop pos = xs
theorem Rr.q {w : World} {r : Nat} {bs : List UInt8} {pos : Nat} {e : Int} (h : Rr w r bs pos e) : Rq w r (bs.drop pos) e := ⟨bs, pos, h, rfl⟩
theorem Rq.len {w : World} {r : Nat} {xs : List UInt8} {e : Int} (h : Rq w r xs e) : xs.length ≤ 35184372088832 := by
  obtain ⟨bs, pos, h, rfl⟩ := h
  have := h.2.1
  rw [List.length_drop]; omega
theorem Rq.lt {w : World} {r : Nat} {xs : List UInt8} {e : Int} (h : Rq w r xs e) : r < w.heap.size := by
  obtain ⟨bs, pos, h, rfl⟩ := h; exact h.lt
theorem Rq.kp {w w' : World} {r : Nat} {xs : List UInt8} {e : Int} (h : Rq w r xs e) (k : Kp [] w w') : Rq w' r xs e := by
  obtain ⟨bs, pos, h, rfl⟩ := h; exact (h.kp k).q
theorem Rq.kind {w : World} {r : Nat} {xs : List UInt8} {e : Int} (h : Rq w r xs e) : ∃ cs, w.heap[r]? = some (.cells cs 76 (0, 0)) := by
  obtain ⟨bs, pos, h, rfl⟩ := h; exact h.kind
theorem Rq.kt {Ts : List TypeId} {w w' : World} {r : Nat} {xs : List UInt8} {e : Int} (h : Rq w r xs e) (k : Kt Ts w w') (ht : 5 ∈ Ts) (hr : 76 ∈ Ts) : Rq w' r xs e := by
  obtain ⟨bs, pos, h, rfl⟩ := h; exact (h.kt k ht hr).q
theorem Rq.err {w : World} {r : Nat} {xs : List UInt8} {e : Int} (h : Rq w r xs e) : w.cell? ⟨r, 2, none⟩ = some (.int .i64 e) := by
  obtain ⟨bs, pos, h, rfl⟩ := h
  obtain ⟨A, C, c0, c1, c2, _⟩ := h.facts
  exact c2
theorem qleft_any {w : World} {r : Nat} {xs : List UInt8} {e : Int} (h : Rq w r xs e) :
    Calls Tryd.prog 29 #[.pointer (some ⟨r, 0, none⟩)] w fun en w' => en = .returned (.int .i64 (xs.length : Int)) ∧ ∃ n, w' = w.drewN n := by
  obtain ⟨bs, pos, h, rfl⟩ := h
  rw [List.length_drop]
  exact rleft_any h
theorem qend_any {w : World} {r : Nat} {xs : List UInt8} {e : Int} (h : Rq w r xs e) :
    Calls Tryd.prog 28 #[.pointer (some ⟨r, 0, none⟩)] w fun en w' => en = .returned (.int .i64 (endOf xs e)) ∧ ∃ n, w' = w.drewN n := by
  obtain ⟨bs, pos, h, rfl⟩ := h
  exact rend_any h
theorem qnew_any {w : World} {v : Value} {xs : List UInt8} (h : Bs w v xs) (hlen : xs.length ≤ 35184372088832) :
    Calls Tryd.prog 25 #[v] w fun e w' => ∃ r, e = .returned (.pointer (some ⟨r, 0, none⟩)) ∧ w.heap.size ≤ r ∧ Kp [] w w' ∧ Rq w' r xs 0 :=
  (rnew_any h hlen).mono fun _ _ ⟨r, a, b, c, d⟩ => ⟨r, a, b, c, d.q⟩

def QvPost (r : Nat) (w : World) (t : List UInt8 × List UInt8 × Int) (en : Ending) (w' : World) : Prop :=
  ∃ A C, en = .returned (.slice A t.1.length C) ∧ Kp [r] w w' ∧ Ob w.heap.size w' (.slice A t.1.length C) t.1 ∧ Rq w' r t.2.1 t.2.2

set_option maxHeartbeats 1000000 in
theorem rvec_err {w : World} {r : Nat} {bs : List UInt8} {pos V K : Nat} {e E1 : Int} (h : Rr w r bs pos e) (hv : lnR (bs.drop pos) e = (V, K, E1)) (he : E1 ≠ 0) :
    Calls Tryd.prog 27 #[.pointer (some ⟨r, 0, none⟩)] w (QvPost r w ([], bs.drop pos, E1)) := by
  have hL := rlen_any h
  rw [hv] at hL
  have hpos := Lib.hid h.1
  obtain ⟨A, C, c0, c1, c2, f1, f2, n1, n2, H, HB, _⟩ := h.facts
  have t1 : (E1 == 0) = false := by simpa using he
  have t2 : (E1 != 0) = true := by simpa using he
  have HE := Lib.hid he
  clear h hv he
  go_enter Tryd.func27, Tryd.ntmps27
  go_wp2_with (first | (go_at_call 54; refine hL.mono ?_; rintro en w1 ⟨rfl, k1, R1⟩; have HR1 := Lib.hid R1; obtain ⟨A1, C1, d0, d1, d2, g1, g2, m1, m2, H1, HB1, -⟩ := R1.facts; have HT := rtake_err HR1.out V HE.out; clear R1) | (go_at_call 55; refine HT.mono ?_; rintro en w2 ⟨A2, C2, rfl, k2, O2, R2⟩; have HR2 := Lib.hid R2; obtain ⟨A3, C3, b0, b1, b2, p1, p2, m3, m4, H2, HB2, -⟩ := R2.facts; clear R2))
  go_ret
  exact ⟨none, 0, rfl, (k1.trans k2).setCell _ _ (by simp), Ob.nil _ _, (HR2.out.setPos pos hpos.out).q⟩

set_option maxHeartbeats 1000000 in
theorem rvec_big {w : World} {r : Nat} {bs : List UInt8} {pos V K : Nat} {e : Int} (h : Rr w r bs pos e) (hv : lnR (bs.drop pos) e = (V, K, 0)) (hb : 65536 < V) :
    Calls Tryd.prog 27 #[.pointer (some ⟨r, 0, none⟩)] w (QvPost r w ([], bs.drop pos, 21)) := by
  have hL := rlen_any h
  rw [hv] at hL
  have hpos := Lib.hid h.1
  obtain ⟨A, C, c0, c1, c2, f1, f2, n1, n2, H, HB, _⟩ := h.facts
  have t1 : decide ((65536 : Int) < (V : Int)) = true := decide_eq_true (by omega)
  clear h hv hb
  go_enter Tryd.func27, Tryd.ntmps27
  go_wp2_with (first | (go_at_call 54; refine hL.mono ?_; rintro en w1 ⟨rfl, k1, R1⟩; have HR1 := Lib.hid R1; obtain ⟨A1, C1, d0, d1, d2, g1, g2, m1, m2, H1, HB1, -⟩ := R1.facts; have HT := rtake_err (HR1.out.setErr 21) V (by decide); clear R1) | (go_at_call 55; refine HT.mono ?_; rintro en w2 ⟨A2, C2, rfl, k2, O2, R2⟩; have HR2 := Lib.hid R2; obtain ⟨A3, C3, b0, b1, b2, p1, p2, m3, m4, H2, HB2, -⟩ := R2.facts; clear R2))
  go_ret
  exact ⟨none, 0, rfl, ((k1.setCell _ _ (by simp)).trans k2).setCell _ _ (by simp), Ob.nil _ _, (HR2.out.setPos pos hpos.out).q⟩

set_option maxHeartbeats 1000000 in
theorem rvec_short {w : World} {r : Nat} {bs : List UInt8} {pos V K : Nat} {e : Int} (h : Rr w r bs pos e) (hv : lnR (bs.drop pos) e = (V, K, 0)) (hb : V ≤ 65536) (hs : bs.length - (pos + K) < V) :
    Calls Tryd.prog 27 #[.pointer (some ⟨r, 0, none⟩)] w (QvPost r w ([], bs.drop pos, 20)) := by
  have hL := rlen_any h
  rw [hv] at hL
  have hpos := Lib.hid h.1
  obtain ⟨A, C, c0, c1, c2, f1, f2, n1, n2, H, HB, _⟩ := h.facts
  have t1 : decide ((65536 : Int) < (V : Int)) = false := decide_eq_false (by omega)
  have Hs := Lib.hid hs
  clear h hv hb hs
  go_enter Tryd.func27, Tryd.ntmps27
  go_wp2_with (first | (go_at_call 54; refine hL.mono ?_; rintro en w1 ⟨rfl, k1, R1⟩; have HR1 := Lib.hid R1; obtain ⟨A1, C1, d0, d1, d2, g1, g2, m1, m2, H1, HB1, -⟩ := R1.facts; have HT := rtake_end HR1.out V Hs.out; clear R1) | (go_at_call 55; refine HT.mono ?_; rintro en w2 ⟨A2, C2, rfl, k2, O2, R2⟩; have HR2 := Lib.hid R2; obtain ⟨A3, C3, b0, b1, b2, p1, p2, m3, m4, H2, HB2, -⟩ := R2.facts; clear R2))
  go_ret
  exact ⟨none, 0, rfl, (k1.trans k2).setCell _ _ (by simp), Ob.nil _ _, (HR2.out.setPos pos hpos.out).q⟩

set_option maxHeartbeats 1000000 in
theorem rvec_ok {w : World} {r : Nat} {bs : List UInt8} {pos V K : Nat} {e : Int} (h : Rr w r bs pos e) (hv : lnR (bs.drop pos) e = (V, K, 0)) (hb : V ≤ 65536) (hs : V ≤ bs.length - (pos + K)) :
    Calls Tryd.prog 27 #[.pointer (some ⟨r, 0, none⟩)] w (QvPost r w ((bs.drop (pos + K)).take V, bs.drop (pos + K + V), 0)) := by
  have hL := rlen_any h
  rw [hv] at hL
  have hpos := Lib.hid h.1
  obtain ⟨A, C, c0, c1, c2, f1, f2, n1, n2, H, HB, _⟩ := h.facts
  have t1 : decide ((65536 : Int) < (V : Int)) = false := decide_eq_false (by omega)
  have Hs := Lib.hid hs
  clear h hv hb hs
  go_enter Tryd.func27, Tryd.ntmps27
  go_wp2_with (first | (go_at_call 54; refine hL.mono ?_; rintro en w1 ⟨rfl, k1, R1⟩; have HR1 := Lib.hid R1; obtain ⟨A1, C1, d0, d1, d2, g1, g2, m1, m2, H1, HB1, -⟩ := R1.facts; have HT := rtake_ok HR1.out V Hs.out; clear R1) | (go_at_call 55; refine HT.mono ?_; rintro en w2 ⟨A2, C2, rfl, k2, O2, R2⟩; have HR2 := Lib.hid R2; obtain ⟨A3, C3, b0, b1, b2, p1, p2, m3, m4, H2, HB2, -⟩ := R2.facts; clear R2))
  go_ret
  exact ⟨A2, C2, by simp, k1.trans k2, O2.mono k1.size, HR2.out.q⟩

theorem qvec_any {w : World} {r : Nat} {xs : List UInt8} {e : Int} (h : Rq w r xs e) :
    Calls Tryd.prog 27 #[.pointer (some ⟨r, 0, none⟩)] w (QvPost r w (v1 xs e)) := by
  obtain ⟨bs, pos, h, rfl⟩ := h
  generalize hv : lnR (bs.drop pos) e = t
  obtain ⟨V, K, E1⟩ := t
  by_cases he : E1 = 0
  · subst he
    have e0 : e = 0 := by
      unfold lnR at hv
      by_cases h0 : e = 0
      · exact h0
      · rw [if_pos h0] at hv; injection hv with _ hv; injection hv
    subst e0
    have hl : lnv (bs.drop pos) = (V, K, 0) := by simpa [lnR] using hv
    by_cases hb : 65536 < V
    · have : v1 (bs.drop pos) 0 = ([], bs.drop pos, 21) := by simp [v1, vc, hl, hb]
      rw [this]; exact rvec_big h hv hb
    · by_cases hs : bs.length - (pos + K) < V
      · have : v1 (bs.drop pos) 0 = ([], bs.drop pos, 20) := by
          simp only [v1, vc, hl]
          rw [if_neg (by simp), if_neg (by simp), if_neg hb, if_pos (by rw [List.length_drop, List.length_drop]; omega)]
        rw [this]; exact rvec_short h hv (by omega) hs
      · have : v1 (bs.drop pos) 0 = ((bs.drop (pos + K)).take V, bs.drop (pos + K + V), 0) := by
          simp only [v1, vc, hl]
          rw [if_neg (by simp), if_neg (by simp), if_neg hb, if_neg (by rw [List.length_drop, List.length_drop]; omega), List.drop_drop, List.drop_drop]
        rw [this]; exact rvec_ok h hv (by omega) (by omega)
  · have : v1 (bs.drop pos) e = ([], bs.drop pos, E1) := by
      by_cases h0 : e = 0
      · subst h0
        have hl : lnv (bs.drop pos) = (V, K, E1) := by simpa [lnR] using hv
        simp only [v1, vc, hl]
        rw [if_neg (by simp), if_pos he]
      · have : E1 = e := by
          unfold lnR at hv
          rw [if_pos h0] at hv; injection hv with _ hv; injection hv with _ hv; exact hv.symm
        subst this
        simp only [v1]
        rw [if_pos h0]
    rw [this]; exact rvec_err h hv he
end Go.Proofs.YtgmdcmkokdbeoaaDoor
