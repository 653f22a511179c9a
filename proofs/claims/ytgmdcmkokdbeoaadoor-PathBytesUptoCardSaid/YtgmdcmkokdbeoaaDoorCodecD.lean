/- The walks of codec.Reader: Vector, Left, End. -/
import Derived.Test.YtgmdcmkokdbeoaaDoorCodecC
namespace Go.Proofs.YtgmdcmkokdbeoaaDoor
open Go.RowKit

theorem Rd.facts {w : World} {r : Nat} {xs : List UInt8} {e : Int} (h : Rd w r xs e) : ∃ sv, w.cell? ⟨r, 0, none⟩ = some sv ∧ w.cell? ⟨r, 1, none⟩ = some (.int .i64 e) ∧ w.frozen? ⟨r, 0, none⟩ = false ∧ w.frozen? ⟨r, 1, none⟩ = false ∧
    Hid (w.heap[r]? = some (.cells #[sv, .int .i64 e, .bool true] 99 (0, 0))) ∧ Bt w sv xs := by
  obtain ⟨sv, hh, hb⟩ := h
  exact ⟨sv, by rw [heap_cell hh 0]; rfl, by rw [heap_cell hh 1]; rfl, heap_free hh 0, heap_free hh 1, hh, hb⟩

/-- A vector: its bytes, what is left, the error. -/
def vc (xs : List UInt8) : List UInt8 × List UInt8 × Int :=
  if (lnv xs).2.2 ≠ 0 then ([], xs, (lnv xs).2.2)
  else if 65536 < (lnv xs).1 then ([], xs, 21)
  else if (xs.drop (lnv xs).2.1).length < (lnv xs).1 then ([], xs, 20)
  else ((xs.drop (lnv xs).2.1).take (lnv xs).1, (xs.drop (lnv xs).2.1).drop (lnv xs).1, 0)
theorem lnv_none (xs : List UInt8) (h : (lnv xs).2.2 ≠ 0) : (lnv xs).1 = 0 ∧ (lnv xs).2.1 = 0 := by
  unfold lnv at h ⊢
  repeat (split at h <;> try split) <;> simp_all
theorem lnv_big (xs : List UInt8) : (lnv xs).1 < 1073741824 := by
  unfold lnv
  repeat' split
  all_goals (simp; try omega)

set_option maxHeartbeats 400000 in
theorem vector_err {w : World} {r : Nat} {xs : List UInt8} {e : Int} (h : Rd w r xs e) (he : e ≠ 0) :
    Calls Tryd.prog 22 #[.pointer (some ⟨r, 0, none⟩)] w (TakePost r w ([], xs, e)) := by
  have he1 : (e != 0) = true := by simpa using he
  have hE := err_any h
  go_enter Tryd.func22, Tryd.ntmps22
  go_wp2_with (go_at_call 48; refine hE.mono ?_; rintro en w' ⟨rfl, rfl⟩)
  go_ret
  exact ⟨none, 0, rfl, Kp.refl _ _, Ob.nil _ _, h⟩

set_option maxHeartbeats 400000 in
theorem vector_any {w : World} {r : Nat} {xs : List UInt8} (h : Rd w r xs 0) (hlen : xs.length ≤ 35184372088832) :
    Calls Tryd.prog 22 #[.pointer (some ⟨r, 0, none⟩)] w (TakePost r w (vc xs)) := by
  have hE := err_any h
  have hL := length_any h
  obtain ⟨sv, c0, c1, f0, f1, H, hbb⟩ := h.facts
  obtain ⟨⟨a, c, rfl, h1, h2, _, _⟩, -⟩ := id hbb
  have hne := Rd.ne H.out hbb (by simp)
  have hlt := heap_lt H.out
  have hbig := lnv_big xs
  have hk := hlt
  by_cases he : (lnv xs).2.2 = 0
  · have hvc : vc xs = if 65536 < (lnv xs).1 then ([], xs, 21) else if (xs.drop (lnv xs).2.1).length < (lnv xs).1 then ([], xs, 20) else ((xs.drop (lnv xs).2.1).take (lnv xs).1, (xs.drop (lnv xs).2.1).drop (lnv xs).1, 0) := by
      unfold vc; rw [if_neg (by simpa using he)]
    rw [hvc]
    rw [he] at hL
    clear hvc he
    have hys : (xs.drop (lnv xs).2.1).length ≤ xs.length := by rw [List.length_drop]; omega
    generalize xs.drop (lnv xs).2.1 = ys at *
    generalize (lnv xs).1 = N at *
    by_cases hN : 65536 < N
    · rw [if_pos hN]
      have hN1 : (65536 : Int) < N := by omega
      go_enter Tryd.func22, Tryd.ntmps22
      go_wp2_with (first | (go_at_call 48; refine hE.mono ?_; rintro en w' ⟨rfl, rfl⟩) | (go_at_call 49; refine hL.mono ?_; rintro en w1 ⟨rfl, k1, h1⟩; obtain ⟨sv1, d0, d1, g0, g1, H1, b1⟩ := h1.facts; have hT := take_any (w := w1.setCell ⟨r, 1, none⟩ (.int .i64 21)) (r := r) (xs := ys) (e := 21) ⟨sv1, heap_set H1.out 1 _, b1.keep ((Kp.refl [r] _).setCell ⟨r, 1, none⟩ _ (by simp)) (Rd.ne H1.out b1 (by obtain ⟨⟨_, _, rfl, _⟩, _⟩ := b1; simp))⟩ N (by omega) (by omega); rw [show tk N ys 21 = ([], ys, 21) by simp [tk]] at hT) | (go_at_call 50; refine hT.mono ?_; rintro en w2 ⟨A, C, rfl, k2, ho, h2⟩; obtain ⟨sv2, p0, p1, q0, q1, H2, b2⟩ := h2.facts))
      go_ret
      have k12 := (k1.setCell ⟨r, 1, none⟩ (.int .i64 21) (by simp)).trans k2
      have ho' := ho.lt
      simp only [World.size_setCell] at ho'
      have ks := k1.size
      exact ⟨A, C, rfl, k12.setCell _ _ (by simp), (ho.mono (by simpa using ks)).kp ((Kp.refl [r] _).setCell ⟨r, 0, none⟩ _ (by simp)) (fun b hb => by have := ho' b hb; simp; omega), _, heap_set H2.out 0 _, (hbb.keep k12 hne).keep ((Kp.refl [r] _).setCell ⟨r, 0, none⟩ _ (by simp)) hne⟩
    · rw [if_neg hN]
      have hN1 : (N : Int) ≤ 65536 := by omega
      by_cases hN2 : ys.length < N
      · rw [if_pos hN2]
        go_enter Tryd.func22, Tryd.ntmps22
        go_wp2_with (first | (go_at_call 48; refine hE.mono ?_; rintro en w' ⟨rfl, rfl⟩) | (go_at_call 49; refine hL.mono ?_; rintro en w1 ⟨rfl, k1, h1⟩; obtain ⟨sv1, d0, d1, g0, g1, H1, b1⟩ := h1.facts; have hT := take_any h1 N (by omega) (by omega); rw [show tk N ys 0 = ([], ys, 20) by simp [tk, hN2]] at hT) | (go_at_call 50; refine hT.mono ?_; rintro en w2 ⟨A, C, rfl, k2, ho, h2⟩; obtain ⟨sv2, p0, p1, q0, q1, H2, b2⟩ := h2.facts))
        go_ret
        have k12 := k1.trans k2
        have ho' := ho.lt
        have ks := k1.size
        exact ⟨A, C, rfl, k12.setCell _ _ (by simp), (ho.mono ks).kp ((Kp.refl [r] _).setCell ⟨r, 0, none⟩ _ (by simp)) (fun b hb => by have := ho' b hb; simp; omega), _, heap_set H2.out 0 _, (hbb.keep k12 hne).keep ((Kp.refl [r] _).setCell ⟨r, 0, none⟩ _ (by simp)) hne⟩
      · rw [if_neg hN2]
        have hlt2 : (ys.take N).length = N := by rw [List.length_take]; omega
        have HL := Lib.hid hlt2
        clear hlt2
        go_enter Tryd.func22, Tryd.ntmps22
        go_wp2_with (first | (go_at_call 48; refine hE.mono ?_; rintro en w' ⟨rfl, rfl⟩) | (go_at_call 49; refine hL.mono ?_; rintro en w1 ⟨rfl, k1, h1⟩; obtain ⟨sv1, d0, d1, g0, g1, H1, b1⟩ := h1.facts; have hT := take_any h1 N (by omega) (by omega); rw [show tk N ys 0 = (ys.take N, ys.drop N, 0) by simp [tk, hN2]] at hT) | (go_at_call 50; refine hT.mono ?_; rintro en w2 ⟨A, C, rfl, k2, ho, h2⟩; obtain ⟨sv2, p0, p1, q0, q1, H2, b2⟩ := h2.facts))
        go_ret
        have k12 := k1.trans k2
        have ks := k1.size
        exact ⟨A, C, (by show Ending.returned (Value.slice A _ C) = Ending.returned (Value.slice A (ys.take N).length C); first | rfl | (rw [HL.out, Nat.min_eq_left (by omega)]; done) | rw [HL.out]), k12, ho.mono ks, h2⟩
  · have he1 : ((lnv xs).2.2 == 0) = false := by simpa using he
    have he2 : ((lnv xs).2.2 != 0) = true := by simpa using he
    obtain ⟨z1, z2⟩ := lnv_none xs he
    rw [show vc xs = ([], xs, (lnv xs).2.2) by unfold vc; rw [if_pos he]]
    rw [z1, z2] at hL
    clear z1 z2
    simp only [List.drop_zero] at hL
    generalize (lnv xs).2.2 = E at *
    go_enter Tryd.func22, Tryd.ntmps22
    go_wp2_with (first | (go_at_call 48; refine hE.mono ?_; rintro en w' ⟨rfl, rfl⟩) | (go_at_call 49; refine hL.mono ?_; rintro en w1 ⟨rfl, k1, h1⟩; obtain ⟨sv1, d0, d1, g0, g1, H1, b1⟩ := h1.facts; have hT := take_any h1 0 hlen (by omega); rw [show tk 0 xs E = ([], xs, E) by simp [tk, he]] at hT) | (go_at_call 50; refine hT.mono ?_; rintro en w2 ⟨A, C, rfl, k2, ho, h2⟩; obtain ⟨sv2, p0, p1, q0, q1, H2, b2⟩ := h2.facts))
    go_ret
    have k12 := k1.trans k2
    exact ⟨A, C, rfl, k12.setCell _ _ (by simp), (ho.mono k1.size).kp ((Kp.refl [r] _).setCell ⟨r, 0, none⟩ _ (by simp)) (fun b hb => by have := ho.lt b hb; have := k1.size; simp; omega), _, heap_set H2.out 0 _, (hbb.keep k12 hne).keep ((Kp.refl [r] _).setCell ⟨r, 0, none⟩ _ (by simp)) hne⟩

set_option maxHeartbeats 400000 in
theorem left_any {w : World} {r : Nat} {xs : List UInt8} {e : Int} (h : Rd w r xs e) :
    Calls Tryd.prog 52 #[.pointer (some ⟨r, 0, none⟩)] w fun en w' => en = .returned (.int .i64 xs.length) ∧ w = w' := by
  obtain ⟨sv, c0, c1, f0, f1, H, hbb⟩ := h.facts
  obtain ⟨⟨a, c, rfl, h1, h2, _, _⟩, -⟩ := hbb
  go_enter Tryd.func52, Tryd.ntmps52
  go_wp2
  go_ret
  exact ⟨rfl, rfl⟩

def endOf (xs : List UInt8) (e : Int) : Int := if e ≠ 0 then e else if 0 < xs.length then 21 else 0
set_option maxHeartbeats 400000 in
theorem end_any {w : World} {r : Nat} {xs : List UInt8} {e : Int} (h : Rd w r xs e) :
    Calls Tryd.prog 67 #[.pointer (some ⟨r, 0, none⟩)] w fun en w' => en = .returned (.int .i64 (endOf xs e)) ∧ w = w' := by
  have hE := err_any h
  obtain ⟨sv, c0, c1, f0, f1, H, hbb⟩ := h.facts
  obtain ⟨⟨a, c, rfl, h1, h2, _, _⟩, -⟩ := hbb
  by_cases he : e = 0
  · subst he
    by_cases hl : 0 < xs.length
    · rw [show endOf xs 0 = 21 by unfold endOf; rw [if_neg (by simp), if_pos hl]]
      go_enter Tryd.func67, Tryd.ntmps67
      go_wp2_with (go_at_call 48; refine hE.mono ?_; rintro en w' ⟨rfl, rfl⟩)
      go_ret
      exact ⟨rfl, rfl⟩
    · rw [show endOf xs 0 = 0 by unfold endOf; rw [if_neg (by simp), if_neg hl]]
      go_enter Tryd.func67, Tryd.ntmps67
      go_wp2_with (go_at_call 48; refine hE.mono ?_; rintro en w' ⟨rfl, rfl⟩)
      go_ret
      exact ⟨rfl, rfl⟩
  · rw [show endOf xs e = e by simp [endOf, he]]
    have he1 : (e != 0) = true := by simpa using he
    go_enter Tryd.func67, Tryd.ntmps67
    go_wp2_with (go_at_call 48; refine hE.mono ?_; rintro en w' ⟨rfl, rfl⟩)
    go_ret
    exact ⟨rfl, rfl⟩
end Go.Proofs.YtgmdcmkokdbeoaaDoor
