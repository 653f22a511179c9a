/- The reader of the reference: Length of two and of four bytes. -/
import Derived.Test.YtgmdcmkokdbeoaaDoorRefB
set_option linter.unusedVariables false
namespace Go.Proofs.YtgmdcmkokdbeoaaDoor
open Go.RowKit

set_option maxHeartbeats 2000000 in
theorem rlen_two {w : World} {r : Nat} {bs : List UInt8} {pos : Nat} (h : Rr w r bs pos 0) (n : Nat) (hn : bs.length - pos = n) (hs : 2 ≤ n) (hm : 64 ≤ be ((bs.drop pos).take 2) % 16384) (hx : ((bs[pos]?).getD 0).toNat / 64 = 1) :
    Calls Tryd.prog 54 #[.pointer (some ⟨r, 0, none⟩)] w (RlenPost w r bs pos (be ((bs.drop pos).take 2) % 16384, 2, 0)) := by
  have h0 := Lib.hid h
  have hL := rleft_any h
  rw [hn] at hL
  have HL2 := Lib.hid (show ∀ w2, Kp [] w w2 → Calls Tryd.prog 29 #[.pointer (some ⟨r, 0, none⟩)] w2 fun en w' => en = .returned (.int .i64 (n : Int)) ∧ ∃ n, w' = w2.drewN n from fun w2 k => hn ▸ rleft_any (h.kp k))
  obtain ⟨A, C, c0, c1, c2, f1, f2, n1, n2, H, HB, h4⟩ := h.facts
  obtain ⟨g, o, rfl, hc⟩ := h4 (by omega)
  have hck := hc pos (by omega)
  have hlt : pos < bs.length := by omega
  have tn : ((n : Int) == 0) = false := by simp; omega
  have hbig : be ((bs.drop pos).take 2) < 65536 := by simpa using be_take_lt (bs.drop pos) 2
  have HN := Lib.hid (show ∀ w2, Kp [] w w2 → Calls Tryd.prog 71 #[.pointer (some ⟨r, 0, none⟩), .int .i64 2] w2 fun en w' => en = .returned (.int .i64 (be ((bs.drop pos).take 2) : Nat)) ∧ ∃ n, w' = w2.drewN n from fun w2 k => rnum_any (h.kp k) 2 (by omega) (by omega))
  have hp1 : pos + 2 ≤ bs.length := by omega
  have HP := Lib.hid hp1
  have hpl := h.2.1
  generalize ((bs[pos]?).getD 0).toNat = b at *
  generalize be ((bs.drop pos).take 2) = V at *
  have hV := and14 V (by omega)
  clear hc h4 hn
  · have hx' : (b : Int) / 64 = 1 := by omega
    have hs' : decide ((n : Int) < 2) = false := decide_eq_false (by omega)
    have hm' : decide (((V % 16384 : Nat) : Int) < 64) = false := decide_eq_false (by omega)
    simp only [Int.natCast_emod, Int.cast_ofNat_Int] at hm' hV
    clear hx h
    go_enter Tryd.func54, Tryd.ntmps54
    go_wp2_with (go_at_call 29; refine hL.mono ?_; rintro en w1 ⟨rfl, q, hq⟩; have kq : Kp [] w w1 := hq ▸ Kp.drewNs q; clear hq; have d0 := kq.get c0 (by simp); have d1 := kq.get c1 (by simp); have d2 := kq.get c2 (by simp); have dk := kq.get hck (by simp); have g2 := (kq.frozen (p := ⟨r, 2, none⟩) (heap_lt H.out) (by simp)).trans f2; have g1 := (kq.frozen (p := ⟨r, 1, none⟩) (heap_lt H.out) (by simp)).trans f1)
    go_quiet (fail)
    go_wp2_with (first | (go_at_call 29; refine (HL2.out _ (kq.drewN _)).mono ?_; rintro en w2 ⟨rfl, q2, hq2⟩; have k2 : Kp [] (w1.drewN nq) w2 := hq2 ▸ Kp.drewNs q2; clear hq2; have l2 : Kp [] w w2 := (kq.drewN nq).trans k2) | (go_at_call 71; refine (HN.out _ l2).mono ?_; rintro en w3 ⟨rfl, q3, hq3⟩; have k3 : Kp [] w2 w3 := hq3 ▸ Kp.drewNs q3; clear hq3; have l3 : Kp [] w w3 := l2.trans k3; have e1 := l3.get c1 (by simp); have g3 := (l3.frozen (p := ⟨r, 1, none⟩) (heap_lt H.out) (by simp)).trans f1))
    go_ret
    exact ⟨ret_int (by omega), l3.nil.setCell _ _ (by simp), (h0.out.kp l3).setPos (pos + 2) HP.out⟩
set_option maxHeartbeats 2000000 in
theorem rlen_two_min {w : World} {r : Nat} {bs : List UInt8} {pos : Nat} (h : Rr w r bs pos 0) (n : Nat) (hn : bs.length - pos = n) (hs : 2 ≤ n) (hm : be ((bs.drop pos).take 2) % 16384 < 64) (hx : ((bs[pos]?).getD 0).toNat / 64 = 1) :
    Calls Tryd.prog 54 #[.pointer (some ⟨r, 0, none⟩)] w (RlenPost w r bs pos (0, 0, 21)) := by
  have h0 := Lib.hid h
  have hL := rleft_any h
  rw [hn] at hL
  have HL2 := Lib.hid (show ∀ w2, Kp [] w w2 → Calls Tryd.prog 29 #[.pointer (some ⟨r, 0, none⟩)] w2 fun en w' => en = .returned (.int .i64 (n : Int)) ∧ ∃ n, w' = w2.drewN n from fun w2 k => hn ▸ rleft_any (h.kp k))
  obtain ⟨A, C, c0, c1, c2, f1, f2, n1, n2, H, HB, h4⟩ := h.facts
  obtain ⟨g, o, rfl, hc⟩ := h4 (by omega)
  have hck := hc pos (by omega)
  have hlt : pos < bs.length := by omega
  have tn : ((n : Int) == 0) = false := by simp; omega
  have hbig : be ((bs.drop pos).take 2) < 65536 := by simpa using be_take_lt (bs.drop pos) 2
  have HN := Lib.hid (show ∀ w2, Kp [] w w2 → Calls Tryd.prog 71 #[.pointer (some ⟨r, 0, none⟩), .int .i64 2] w2 fun en w' => en = .returned (.int .i64 (be ((bs.drop pos).take 2) : Nat)) ∧ ∃ n, w' = w2.drewN n from fun w2 k => rnum_any (h.kp k) 2 (by omega) (by omega))
  have hp1 : pos + 2 ≤ bs.length := by omega
  have HP := Lib.hid hp1
  have hpl := h.2.1
  generalize ((bs[pos]?).getD 0).toNat = b at *
  generalize be ((bs.drop pos).take 2) = V at *
  have hV := and14 V (by omega)
  clear hc h4 hn
  · have hx' : (b : Int) / 64 = 1 := by omega
    have hs' : decide ((n : Int) < 2) = false := decide_eq_false (by omega)
    have hm' : decide (((V % 16384 : Nat) : Int) < 64) = true := decide_eq_true (by omega)
    simp only [Int.natCast_emod, Int.cast_ofNat_Int] at hm' hV
    clear hx h
    go_enter Tryd.func54, Tryd.ntmps54
    go_wp2_with (go_at_call 29; refine hL.mono ?_; rintro en w1 ⟨rfl, q, hq⟩; have kq : Kp [] w w1 := hq ▸ Kp.drewNs q; clear hq; have d0 := kq.get c0 (by simp); have d1 := kq.get c1 (by simp); have d2 := kq.get c2 (by simp); have dk := kq.get hck (by simp); have g2 := (kq.frozen (p := ⟨r, 2, none⟩) (heap_lt H.out) (by simp)).trans f2; have g1 := (kq.frozen (p := ⟨r, 1, none⟩) (heap_lt H.out) (by simp)).trans f1)
    go_quiet (fail)
    go_wp2_with (first | (go_at_call 29; refine (HL2.out _ (kq.drewN _)).mono ?_; rintro en w2 ⟨rfl, q2, hq2⟩; have k2 : Kp [] (w1.drewN nq) w2 := hq2 ▸ Kp.drewNs q2; clear hq2; have l2 : Kp [] w w2 := (kq.drewN nq).trans k2) | (go_at_call 71; refine (HN.out _ l2).mono ?_; rintro en w3 ⟨rfl, q3, hq3⟩; have k3 : Kp [] w2 w3 := hq3 ▸ Kp.drewNs q3; clear hq3; have l3 : Kp [] w w3 := l2.trans k3; have e1 := l3.get c2 (by simp); have g3 := (l3.frozen (p := ⟨r, 2, none⟩) (heap_lt H.out) (by simp)).trans f2))
    go_ret
    exact ⟨rfl, l3.nil.setCell _ _ (by simp), (h0.out.kp l3).setErr 21⟩
set_option maxHeartbeats 2000000 in
theorem rlen_four {w : World} {r : Nat} {bs : List UInt8} {pos : Nat} (h : Rr w r bs pos 0) (n : Nat) (hn : bs.length - pos = n) (hs : 4 ≤ n) (hm : 16384 ≤ be ((bs.drop pos).take 4) % 1073741824) (hx : ((bs[pos]?).getD 0).toNat / 64 = 2) :
    Calls Tryd.prog 54 #[.pointer (some ⟨r, 0, none⟩)] w (RlenPost w r bs pos (be ((bs.drop pos).take 4) % 1073741824, 4, 0)) := by
  have h0 := Lib.hid h
  have hL := rleft_any h
  rw [hn] at hL
  have HL2 := Lib.hid (show ∀ w2, Kp [] w w2 → Calls Tryd.prog 29 #[.pointer (some ⟨r, 0, none⟩)] w2 fun en w' => en = .returned (.int .i64 (n : Int)) ∧ ∃ n, w' = w2.drewN n from fun w2 k => hn ▸ rleft_any (h.kp k))
  obtain ⟨A, C, c0, c1, c2, f1, f2, n1, n2, H, HB, h4⟩ := h.facts
  obtain ⟨g, o, rfl, hc⟩ := h4 (by omega)
  have hck := hc pos (by omega)
  have hlt : pos < bs.length := by omega
  have tn : ((n : Int) == 0) = false := by simp; omega
  have hbig : be ((bs.drop pos).take 4) < 4294967296 := by simpa using be_take_lt (bs.drop pos) 4
  have HN := Lib.hid (show ∀ w2, Kp [] w w2 → Calls Tryd.prog 71 #[.pointer (some ⟨r, 0, none⟩), .int .i64 4] w2 fun en w' => en = .returned (.int .i64 (be ((bs.drop pos).take 4) : Nat)) ∧ ∃ n, w' = w2.drewN n from fun w2 k => rnum_any (h.kp k) 4 (by omega) (by omega))
  have hp1 : pos + 4 ≤ bs.length := by omega
  have HP := Lib.hid hp1
  have hpl := h.2.1
  generalize ((bs[pos]?).getD 0).toNat = b at *
  generalize be ((bs.drop pos).take 4) = V at *
  have hV := and30 V (by omega)
  clear hc h4 hn
  · have hx' : (b : Int) / 64 = 2 := by omega
    have hs' : decide ((n : Int) < 4) = false := decide_eq_false (by omega)
    have hm' : decide (((V % 1073741824 : Nat) : Int) < 16384) = false := decide_eq_false (by omega)
    simp only [Int.natCast_emod, Int.cast_ofNat_Int] at hm' hV
    clear hx h
    go_enter Tryd.func54, Tryd.ntmps54
    go_wp2_with (go_at_call 29; refine hL.mono ?_; rintro en w1 ⟨rfl, q, hq⟩; have kq : Kp [] w w1 := hq ▸ Kp.drewNs q; clear hq; have d0 := kq.get c0 (by simp); have d1 := kq.get c1 (by simp); have d2 := kq.get c2 (by simp); have dk := kq.get hck (by simp); have g2 := (kq.frozen (p := ⟨r, 2, none⟩) (heap_lt H.out) (by simp)).trans f2; have g1 := (kq.frozen (p := ⟨r, 1, none⟩) (heap_lt H.out) (by simp)).trans f1)
    go_quiet (fail)
    go_wp2_with (first | (go_at_call 29; refine (HL2.out _ (kq.drewN _)).mono ?_; rintro en w2 ⟨rfl, q2, hq2⟩; have k2 : Kp [] (w1.drewN nq) w2 := hq2 ▸ Kp.drewNs q2; clear hq2; have l2 : Kp [] w w2 := (kq.drewN nq).trans k2) | (go_at_call 71; refine (HN.out _ l2).mono ?_; rintro en w3 ⟨rfl, q3, hq3⟩; have k3 : Kp [] w2 w3 := hq3 ▸ Kp.drewNs q3; clear hq3; have l3 : Kp [] w w3 := l2.trans k3; have e1 := l3.get c1 (by simp); have g3 := (l3.frozen (p := ⟨r, 1, none⟩) (heap_lt H.out) (by simp)).trans f1))
    go_ret
    exact ⟨ret_int (by omega), l3.nil.setCell _ _ (by simp), (h0.out.kp l3).setPos (pos + 4) HP.out⟩
set_option maxHeartbeats 2000000 in
theorem rlen_four_min {w : World} {r : Nat} {bs : List UInt8} {pos : Nat} (h : Rr w r bs pos 0) (n : Nat) (hn : bs.length - pos = n) (hs : 4 ≤ n) (hm : be ((bs.drop pos).take 4) % 1073741824 < 16384) (hx : ((bs[pos]?).getD 0).toNat / 64 = 2) :
    Calls Tryd.prog 54 #[.pointer (some ⟨r, 0, none⟩)] w (RlenPost w r bs pos (0, 0, 21)) := by
  have h0 := Lib.hid h
  have hL := rleft_any h
  rw [hn] at hL
  have HL2 := Lib.hid (show ∀ w2, Kp [] w w2 → Calls Tryd.prog 29 #[.pointer (some ⟨r, 0, none⟩)] w2 fun en w' => en = .returned (.int .i64 (n : Int)) ∧ ∃ n, w' = w2.drewN n from fun w2 k => hn ▸ rleft_any (h.kp k))
  obtain ⟨A, C, c0, c1, c2, f1, f2, n1, n2, H, HB, h4⟩ := h.facts
  obtain ⟨g, o, rfl, hc⟩ := h4 (by omega)
  have hck := hc pos (by omega)
  have hlt : pos < bs.length := by omega
  have tn : ((n : Int) == 0) = false := by simp; omega
  have hbig : be ((bs.drop pos).take 4) < 4294967296 := by simpa using be_take_lt (bs.drop pos) 4
  have HN := Lib.hid (show ∀ w2, Kp [] w w2 → Calls Tryd.prog 71 #[.pointer (some ⟨r, 0, none⟩), .int .i64 4] w2 fun en w' => en = .returned (.int .i64 (be ((bs.drop pos).take 4) : Nat)) ∧ ∃ n, w' = w2.drewN n from fun w2 k => rnum_any (h.kp k) 4 (by omega) (by omega))
  have hp1 : pos + 4 ≤ bs.length := by omega
  have HP := Lib.hid hp1
  have hpl := h.2.1
  generalize ((bs[pos]?).getD 0).toNat = b at *
  generalize be ((bs.drop pos).take 4) = V at *
  have hV := and30 V (by omega)
  clear hc h4 hn
  · have hx' : (b : Int) / 64 = 2 := by omega
    have hs' : decide ((n : Int) < 4) = false := decide_eq_false (by omega)
    have hm' : decide (((V % 1073741824 : Nat) : Int) < 16384) = true := decide_eq_true (by omega)
    simp only [Int.natCast_emod, Int.cast_ofNat_Int] at hm' hV
    clear hx h
    go_enter Tryd.func54, Tryd.ntmps54
    go_wp2_with (go_at_call 29; refine hL.mono ?_; rintro en w1 ⟨rfl, q, hq⟩; have kq : Kp [] w w1 := hq ▸ Kp.drewNs q; clear hq; have d0 := kq.get c0 (by simp); have d1 := kq.get c1 (by simp); have d2 := kq.get c2 (by simp); have dk := kq.get hck (by simp); have g2 := (kq.frozen (p := ⟨r, 2, none⟩) (heap_lt H.out) (by simp)).trans f2; have g1 := (kq.frozen (p := ⟨r, 1, none⟩) (heap_lt H.out) (by simp)).trans f1)
    go_quiet (fail)
    go_wp2_with (first | (go_at_call 29; refine (HL2.out _ (kq.drewN _)).mono ?_; rintro en w2 ⟨rfl, q2, hq2⟩; have k2 : Kp [] (w1.drewN nq) w2 := hq2 ▸ Kp.drewNs q2; clear hq2; have l2 : Kp [] w w2 := (kq.drewN nq).trans k2) | (go_at_call 71; refine (HN.out _ l2).mono ?_; rintro en w3 ⟨rfl, q3, hq3⟩; have k3 : Kp [] w2 w3 := hq3 ▸ Kp.drewNs q3; clear hq3; have l3 : Kp [] w w3 := l2.trans k3; have e1 := l3.get c2 (by simp); have g3 := (l3.frozen (p := ⟨r, 2, none⟩) (heap_lt H.out) (by simp)).trans f2))
    go_ret
    exact ⟨rfl, l3.nil.setCell _ _ (by simp), (h0.out.kp l3).setErr 21⟩

theorem rlen_any {w : World} {r : Nat} {bs : List UInt8} {pos : Nat} {e : Int} (h : Rr w r bs pos e) :
    Calls Tryd.prog 54 #[.pointer (some ⟨r, 0, none⟩)] w (RlenPost w r bs pos (lnR (bs.drop pos) e)) := by
  unfold lnR
  by_cases he : e = 0
  · subst he
    rw [if_neg (by simp)]
    unfold lnv
    have hl : (bs.drop pos).length = bs.length - pos := List.length_drop
    have hh : hd (bs.drop pos) = ((bs[pos]?).getD 0).toNat := by unfold hd; rw [List.getElem?_drop, Nat.add_zero]
    rw [hl, hh]
    by_cases h0 : bs.length - pos = 0
    · rw [if_pos h0]; exact rlen_none h h0
    · rw [if_neg h0]
      by_cases t0 : ((bs[pos]?).getD 0).toNat / 64 = 0
      · rw [if_pos t0]; exact rlen_one h _ rfl (by omega) t0
      · rw [if_neg t0]
        by_cases t1 : ((bs[pos]?).getD 0).toNat / 64 = 1
        · rw [if_pos t1]
          by_cases s2 : bs.length - pos < 2
          · rw [if_pos s2]; exact rlen_short h _ rfl (by omega) 1 2 (.inl ⟨rfl, rfl⟩) s2 t1
          · rw [if_neg s2]
            by_cases m : be ((bs.drop pos).take 2) % 16384 < 64
            · rw [if_pos m]; exact rlen_two_min h _ rfl (by omega) m t1
            · rw [if_neg m]; exact rlen_two h _ rfl (by omega) (by omega) t1
        · rw [if_neg t1]
          by_cases t2 : ((bs[pos]?).getD 0).toNat / 64 = 2
          · rw [if_pos t2]
            by_cases s4 : bs.length - pos < 4
            · rw [if_pos s4]; exact rlen_short h _ rfl (by omega) 2 4 (.inr ⟨rfl, rfl⟩) s4 t2
            · rw [if_neg s4]
              by_cases m : be ((bs.drop pos).take 4) % 1073741824 < 16384
              · rw [if_pos m]; exact rlen_four_min h _ rfl (by omega) m t2
              · rw [if_neg m]; exact rlen_four h _ rfl (by omega) (by omega) t2
          · rw [if_neg t2]
            have := u8_lt ((bs[pos]?).getD 0)
            exact rlen_three h _ rfl (by omega) (by omega)
  · rw [if_pos he]; exact rlen_err h he
end Go.Proofs.YtgmdcmkokdbeoaaDoor
