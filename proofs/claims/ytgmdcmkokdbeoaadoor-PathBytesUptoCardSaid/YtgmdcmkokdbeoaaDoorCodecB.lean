/- The walks of codec.Reader, more. -/
import Derived.Test.YtgmdcmkokdbeoaaDoorApp
namespace Go.Proofs.YtgmdcmkokdbeoaaDoor
open Go.RowKit

theorem Rd.ne {w : World} {r : Nat} {sv : Value} {xs : List UInt8} {e : Int} (hh : w.heap[r]? = some (.cells #[sv, .int .i64 e, .bool true] 99 (0, 0))) (hb : Bt w sv xs) (hs : ∀ k, sv ≠ .int .u8 k) : ∀ b, sv.ownBlock = some b → 0 < xs.length → b ∉ [r] :=
  hb.ne hh (by intro i k; rcases i with _ | _ | _ | i <;> simp; exact hs k)
theorem Rd.lt {w : World} {r : Nat} {xs : List UInt8} {e : Int} (h : Rd w r xs e) : r < w.heap.size := heap_lt h.choose_spec.1
/-- A reader is as it was behind what doesn't touch it nor what it reads. -/
theorem Rd.kp {w w' : World} {r : Nat} {xs : List UInt8} {e : Int} (h : Rd w r xs e) (k : Kp [] w w') : Rd w' r xs e := by
  obtain ⟨sv, hh, hb⟩ := h
  exact ⟨sv, by rw [k.block r (heap_lt hh) (by simp)]; exact hh, hb.kp k⟩

def tk (n : Nat) (xs : List UInt8) (e : Int) : List UInt8 × List UInt8 × Int := if e ≠ 0 then ([], xs, e) else if xs.length < n then ([], xs, 20) else (xs.take n, xs.drop n, 0)

def TakePost (r : Nat) (w : World) (t : List UInt8 × List UInt8 × Int) (en : Ending) (w' : World) : Prop :=
  ∃ A C, en = .returned (.slice A t.1.length C) ∧ Kp [r] w w' ∧ Ob w.heap.size w' (.slice A t.1.length C) t.1 ∧ Rd w' r t.2.1 t.2.2

set_option maxHeartbeats 400000 in
theorem take_any {w : World} {r : Nat} {xs : List UInt8} {e : Int} (h : Rd w r xs e) (n : Nat) (hlen : xs.length ≤ 35184372088832) (hn : n ≤ 9223372036854775807) :
    Calls Tryd.prog 50 #[.pointer (some ⟨r, 0, none⟩), .int .i64 n] w (TakePost r w (tk n xs e)) := by
  have hE := err_any h
  have hrd := h
  obtain ⟨sv, hh, hb⟩ := h
  have hbb := hb
  obtain ⟨⟨a, c, rfl, h1, h2, h3, h4⟩, -⟩ := hb
  have hne := Rd.ne hh hbb (by simp)
  have c0 := heap_cell hh 0
  have c1 := heap_cell hh 1
  have f0 := heap_free hh 0
  have f1 := heap_free hh 1
  simp at c0 c1
  have H := Lib.hid hh
  clear hh h3 h4
  by_cases he : e = 0
  · subst he
    by_cases hl : xs.length < n
    · rw [show tk n xs 0 = ([], xs, 20) by simp [tk, hl]]
      go_enter Tryd.func50, Tryd.ntmps50
      go_wp2_with (go_at_call 48; refine hE.mono ?_; rintro en w' ⟨rfl, rfl⟩)
      go_ret
      exact ⟨none, 0, rfl, (Kp.refl _ _).setCell _ _ (by simp), Ob.nil _ _, _, heap_set H.out 1 _, hbb.keep ((Kp.refl [r] _).setCell ⟨r, 1, none⟩ _ (by simp)) hne⟩
    · rw [show tk n xs 0 = (xs.take n, xs.drop n, 0) by simp [tk, hl]]
      have hl' : n ≤ xs.length := by omega
      have hC := clone_any (hbb.1.high n hl') (by rw [List.length_take]; omega)
      have hsl := run_low (P := Tryd.prog) 22 elem_bytes size_bytes a xs.length c n hl'
      have hm := Lib.hid (show (xs.take n).length = n by rw [List.length_take]; omega)
      go_enter Tryd.func50, Tryd.ntmps50
      go_wp2_with (first | (go_at_call 48; refine hE.mono ?_; rintro en w' ⟨rfl, rfl⟩) | (go_at_call 45; refine hC.mono ?_; rintro en w1 ⟨A, C, rfl, hk, ho⟩; have d0 := hk.get c0 (by simp); have g0 := (hk.frozen (p := ⟨r, 0, none⟩) (heap_lt H.out) (by simp)).trans f0))
      go_ret
      have hlt := heap_lt H.out
      have hbk := (hk.block r hlt (by simp)).trans H.out
      have hl2 := ho.lt
      refine ⟨A, C, (by show Ending.returned (Value.slice A n C) = Ending.returned (Value.slice A (xs.take n).length C); rw [hm.out]), (hk.nil).setCell _ _ (by simp), ho.kp ((Kp.refl [r] _).setCell ⟨r, 0, none⟩ _ (by simp)) (fun b hb' => ?_), _, heap_set hbk 0 _, ?_⟩
      · have := hl2 b hb'
        simp; omega
      · exact ((hbb.kp hk).low n hl').keep ((Kp.refl [r] _).setCell ⟨r, 0, none⟩ _ (by simp)) (fun b hb' hp => hne b (lowA_blk hb') (by rw [List.length_drop] at hp; omega))
  · rw [show tk n xs e = ([], xs, e) by simp [tk, he]]
    have he1 : (e != 0) = true := by simpa using he
    go_enter Tryd.func50, Tryd.ntmps50
    go_wp2_with (go_at_call 48; refine hE.mono ?_; rintro en w' ⟨rfl, rfl⟩)
    go_ret
    exact ⟨none, 0, rfl, Kp.refl _ _, Ob.nil _ _, hrd⟩
end Go.Proofs.YtgmdcmkokdbeoaaDoor
