/- The reader of the reference: Length. -/
import Derived.Test.YtgmdcmkokdbeoaaDoorRefA
set_option linter.unusedVariables false
namespace Go.Proofs.YtgmdcmkokdbeoaaDoor
open Go.RowKit

def lnR (xs : List UInt8) (e : Int) : Nat × Nat × Int := if e ≠ 0 then (0, 0, e) else lnv xs
def RlenPost (w : World) (r : Nat) (bs : List UInt8) (pos : Nat) (t : Nat × Nat × Int) (en : Ending) (w' : World) : Prop :=
  en = .returned (.int .i64 (t.1 : Nat)) ∧ Kp [r] w w' ∧ Rr w' r bs (pos + t.2.1) t.2.2
theorem Kp.drewNs {w : World} (n : Nat) : Kp [] w (w.drewN n) := (Kp.refl [] w).drewN n

set_option maxHeartbeats 400000 in
theorem rlen_err {w : World} {r : Nat} {bs : List UInt8} {pos : Nat} {e : Int} (h : Rr w r bs pos e) (he : e ≠ 0) :
    Calls Tryd.prog 54 #[.pointer (some ⟨r, 0, none⟩)] w (RlenPost w r bs pos (0, 0, e)) := by
  have he1 : (e != 0) = true := by simpa using he
  have h0 := Lib.hid h
  obtain ⟨A, C, c0, c1, c2, f1, f2, n1, n2, H, HB, _⟩ := h.facts
  clear h he
  go_enter Tryd.func54, Tryd.ntmps54
  go_wp2
  go_ret
  exact ⟨rfl, Kp.refl _ _, h0.out⟩

set_option maxHeartbeats 400000 in
theorem rlen_none {w : World} {r : Nat} {bs : List UInt8} {pos : Nat} (h : Rr w r bs pos 0) (hl : bs.length - pos = 0) :
    Calls Tryd.prog 54 #[.pointer (some ⟨r, 0, none⟩)] w (RlenPost w r bs pos (0, 0, 20)) := by
  have h0 := Lib.hid h
  have hL := rleft_any h
  rw [hl] at hL
  obtain ⟨A, C, c0, c1, c2, f1, f2, n1, n2, H, HB, _⟩ := h.facts
  clear h hl
  go_enter Tryd.func54, Tryd.ntmps54
  go_wp2_with (go_at_call 29; refine hL.mono ?_; rintro en w' ⟨rfl, q, rfl⟩)
  go_ret
  exact ⟨rfl, (Kp.drewNs q).nil.setCell _ _ (by simp), (h0.out.kp (Kp.drewNs q)).setErr 20⟩

set_option maxHeartbeats 400000 in
theorem rlen_three {w : World} {r : Nat} {bs : List UInt8} {pos : Nat} (h : Rr w r bs pos 0) (n : Nat) (hn : bs.length - pos = n) (hl : 0 < n) (hx : ((bs[pos]?).getD 0).toNat / 64 = 3) :
    Calls Tryd.prog 54 #[.pointer (some ⟨r, 0, none⟩)] w (RlenPost w r bs pos (0, 0, 21)) := by
  have h0 := Lib.hid h
  have hL := rleft_any h
  rw [hn] at hL
  obtain ⟨A, C, c0, c1, c2, f1, f2, n1, n2, H, HB, h4⟩ := h.facts
  obtain ⟨g, o, rfl, hc⟩ := h4 (by omega)
  have hck := hc pos (by omega)
  have hlt : pos < bs.length := by omega
  have tn : ((n : Int) == 0) = false := by simp; omega
  generalize ((bs[pos]?).getD 0).toNat = b at *
  have hx' : (b : Int) / 64 = 3 := by omega
  clear h hc h4 hl hn hx
  go_enter Tryd.func54, Tryd.ntmps54
  go_wp2_with (go_at_call 29; refine hL.mono ?_; rintro en w1 ⟨rfl, q, hq⟩; have kq : Kp [] w w1 := hq ▸ Kp.drewNs q; clear hq; have d0 := kq.get c0 (by simp); have d1 := kq.get c1 (by simp); have d2 := kq.get c2 (by simp); have dk := kq.get hck (by simp); have g2 := (kq.frozen (p := ⟨r, 2, none⟩) (heap_lt H.out) (by simp)).trans f2)
  go_quiet (fail)
  go_wp2
  go_ret
  exact ⟨rfl, (kq.nil.drewN _).setCell _ _ (by simp), ((h0.out.kp kq).kp (Kp.drewNs _)).setErr 21⟩

set_option maxHeartbeats 1000000 in
theorem rlen_short {w : World} {r : Nat} {bs : List UInt8} {pos : Nat} (h : Rr w r bs pos 0) (n : Nat) (hn : bs.length - pos = n) (hl : 0 < n) (t s : Nat) (hts : (t = 1 ∧ s = 2) ∨ (t = 2 ∧ s = 4)) (hs : n < s) (hx : ((bs[pos]?).getD 0).toNat / 64 = t) :
    Calls Tryd.prog 54 #[.pointer (some ⟨r, 0, none⟩)] w (RlenPost w r bs pos (0, 0, 20)) := by
  have h0 := Lib.hid h
  have hL := rleft_any h
  rw [hn] at hL
  have HL2 := Lib.hid (show ∀ w2, Kp [] w w2 → Calls Tryd.prog 29 #[.pointer (some ⟨r, 0, none⟩)] w2 fun en w' => en = .returned (.int .i64 (n : Int)) ∧ ∃ n, w' = w2.drewN n from fun w2 k => hn ▸ rleft_any (h.kp k))
  obtain ⟨A, C, c0, c1, c2, f1, f2, n1, n2, H, HB, h4⟩ := h.facts
  obtain ⟨g, o, rfl, hc⟩ := h4 (by omega)
  have hck := hc pos (by omega)
  have hlt : pos < bs.length := by omega
  have tn : ((n : Int) == 0) = false := by simp; omega
  generalize ((bs[pos]?).getD 0).toNat = b at *
  clear hc h4 hn hl
  rcases hts with ⟨rfl, rfl⟩ | ⟨rfl, rfl⟩
  all_goals
    first | (have hx' : (b : Int) / 64 = 1 := by omega) | (have hx' : (b : Int) / 64 = 2 := by omega)
    first | (have hs' : decide ((n : Int) < 2) = true := decide_eq_true (by omega)) | skip
    have hs'' : decide ((n : Int) < 4) = true := decide_eq_true (by omega)
    clear hx h
    go_enter Tryd.func54, Tryd.ntmps54
    go_wp2_with (go_at_call 29; refine hL.mono ?_; rintro en w1 ⟨rfl, q, hq⟩; have kq : Kp [] w w1 := hq ▸ Kp.drewNs q; clear hq; have d0 := kq.get c0 (by simp); have d1 := kq.get c1 (by simp); have d2 := kq.get c2 (by simp); have dk := kq.get hck (by simp); have g2 := (kq.frozen (p := ⟨r, 2, none⟩) (heap_lt H.out) (by simp)).trans f2; have g1 := (kq.frozen (p := ⟨r, 1, none⟩) (heap_lt H.out) (by simp)).trans f1)
    go_quiet (fail)
    go_wp2_with (go_at_call 29; refine (HL2.out _ (kq.drewN _)).mono ?_; rintro en w2 ⟨rfl, q2, hq2⟩; have k2 : Kp [] (w1.drewN nq) w2 := hq2 ▸ Kp.drewNs q2; clear hq2; have l2 : Kp [] w w2 := (kq.drewN nq).trans k2; have e2 := l2.get c2 (by simp); have g3 := (l2.frozen (p := ⟨r, 2, none⟩) (heap_lt H.out) (by simp)).trans f2)
    go_ret
    exact ⟨rfl, l2.nil.setCell _ _ (by simp), (h0.out.kp l2).setErr 20⟩

set_option maxHeartbeats 2000000 in
theorem rlen_one {w : World} {r : Nat} {bs : List UInt8} {pos : Nat} (h : Rr w r bs pos 0) (n : Nat) (hn : bs.length - pos = n) (hs : 1 ≤ n) (hx : ((bs[pos]?).getD 0).toNat / 64 = 0) :
    Calls Tryd.prog 54 #[.pointer (some ⟨r, 0, none⟩)] w (RlenPost w r bs pos (be ((bs.drop pos).take 1) % 64, 1, 0)) := by
  have h0 := Lib.hid h
  have hL := rleft_any h
  rw [hn] at hL
  have HL2 := Lib.hid (show ∀ w2, Kp [] w w2 → Calls Tryd.prog 29 #[.pointer (some ⟨r, 0, none⟩)] w2 fun en w' => en = .returned (.int .i64 (n : Int)) ∧ ∃ n, w' = w2.drewN n from fun w2 k => hn ▸ rleft_any (h.kp k))
  obtain ⟨A, C, c0, c1, c2, f1, f2, n1, n2, H, HB, h4⟩ := h.facts
  obtain ⟨g, o, rfl, hc⟩ := h4 (by omega)
  have hck := hc pos (by omega)
  have hlt : pos < bs.length := by omega
  have tn : ((n : Int) == 0) = false := by simp; omega
  have hbig : be ((bs.drop pos).take 1) < 256 := by simpa using be_take_lt (bs.drop pos) 1
  have HN := Lib.hid (show ∀ w2, Kp [] w w2 → Calls Tryd.prog 71 #[.pointer (some ⟨r, 0, none⟩), .int .i64 1] w2 fun en w' => en = .returned (.int .i64 (be ((bs.drop pos).take 1) : Nat)) ∧ ∃ n, w' = w2.drewN n from fun w2 k => rnum_any (h.kp k) 1 (by omega) (by omega))
  have hp1 : pos + 1 ≤ bs.length := by omega
  have HP := Lib.hid hp1
  have hpl := h.2.1
  generalize ((bs[pos]?).getD 0).toNat = b at *
  generalize be ((bs.drop pos).take 1) = V at *
  have hV := and63 V (by omega)
  clear hc h4 hn
  · have hx' : (b : Int) / 64 = 0 := by omega
    have hs' : decide ((n : Int) < 1) = false := decide_eq_false (by omega)
    clear hx h
    go_enter Tryd.func54, Tryd.ntmps54
    go_wp2_with (go_at_call 29; refine hL.mono ?_; rintro en w1 ⟨rfl, q, hq⟩; have kq : Kp [] w w1 := hq ▸ Kp.drewNs q; clear hq; have d0 := kq.get c0 (by simp); have d1 := kq.get c1 (by simp); have d2 := kq.get c2 (by simp); have dk := kq.get hck (by simp); have g2 := (kq.frozen (p := ⟨r, 2, none⟩) (heap_lt H.out) (by simp)).trans f2; have g1 := (kq.frozen (p := ⟨r, 1, none⟩) (heap_lt H.out) (by simp)).trans f1)
    go_quiet (fail)
    go_wp2_with (first | (go_at_call 29; refine (HL2.out _ (kq.drewN _)).mono ?_; rintro en w2 ⟨rfl, q2, hq2⟩; have k2 : Kp [] (w1.drewN nq) w2 := hq2 ▸ Kp.drewNs q2; clear hq2; have l2 : Kp [] w w2 := (kq.drewN nq).trans k2) | (go_at_call 71; refine (HN.out _ l2).mono ?_; rintro en w3 ⟨rfl, q3, hq3⟩; have k3 : Kp [] w2 w3 := hq3 ▸ Kp.drewNs q3; clear hq3; have l3 : Kp [] w w3 := l2.trans k3; have e1 := l3.get c1 (by simp); have g3 := (l3.frozen (p := ⟨r, 1, none⟩) (heap_lt H.out) (by simp)).trans f1))
    go_ret
    exact ⟨ret_int (by omega), l3.nil.setCell _ _ (by simp), (h0.out.kp l3).setPos (pos + 1) HP.out⟩
end Go.Proofs.YtgmdcmkokdbeoaaDoor
