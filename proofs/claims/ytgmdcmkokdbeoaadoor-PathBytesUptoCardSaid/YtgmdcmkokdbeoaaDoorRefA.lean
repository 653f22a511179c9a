/- The reader of the reference: New, Left, End, number. -/
import Derived.Test.YtgmdcmkokdbeoaaDoorNodesG
import Derived.Test.YtgmdcmkokdbeoaaDoorOwn
set_option linter.unusedVariables false
namespace Go.Proofs.YtgmdcmkokdbeoaaDoor
open Go.RowKit

/-- The reference's reader: all bytes, the place, the error. -/
def Rr (w : World) (r : Nat) (bs : List UInt8) (pos : Nat) (e : Int) : Prop :=
  pos ≤ bs.length ∧ bs.length ≤ 35184372088832 ∧ ∃ A C, w.heap[r]? = some (.cells #[.slice A bs.length C, .int .i64 pos, .int .i64 e] 76 (0, 0)) ∧ Bt w (.slice A bs.length C) bs
theorem Rr.lt {w : World} {r : Nat} {bs : List UInt8} {pos : Nat} {e : Int} (h : Rr w r bs pos e) : r < w.heap.size := by
  obtain ⟨_, _, A, C, hh, _⟩ := h; exact heap_lt hh
theorem Rr.kp {w w' : World} {r : Nat} {bs : List UInt8} {pos : Nat} {e : Int} (h : Rr w r bs pos e) (k : Kp [] w w') : Rr w' r bs pos e := by
  obtain ⟨h1, h2, A, C, hh, hb⟩ := h; exact ⟨h1, h2, A, C, k.obj hh (by simp), hb.kp k⟩
theorem Rr.kind {w : World} {r : Nat} {bs : List UInt8} {pos : Nat} {e : Int} (h : Rr w r bs pos e) : ∃ cs, w.heap[r]? = some (.cells cs 76 (0, 0)) := by
  obtain ⟨_, _, A, C, hh, _⟩ := h; exact ⟨_, hh⟩
theorem Bt.kt {Ts : List TypeId} {w w' : World} {v : Value} {xs : List UInt8} (h : Bt w v xs) (k : Kt Ts w w') (ht : 5 ∈ Ts) : Bt w' v xs := by
  obtain ⟨⟨a, c, rfl, h1, h2, h3, h4⟩, ty⟩ := h
  refine ⟨⟨a, c, rfl, h1, h2, h3, fun hp => ?_⟩, fun hp b hb => ?_⟩
  · obtain ⟨g, o, rfl, hc⟩ := h4 hp
    obtain ⟨cs, f, hg⟩ := ty hp g (by simp [Value.ownBlock])
    refine ⟨g, o, rfl, fun i hi => ?_⟩
    rw [← hc i hi]
    exact World.cell?_of_block (w := w) (a := ⟨g, o + i, none⟩) ((k _ _ _ _ hg ht).trans hg.symm)
  · obtain ⟨cs, f, hg⟩ := ty hp b hb
    exact ⟨cs, f, k _ _ _ _ hg ht⟩
theorem Rr.kt {Ts : List TypeId} {w w' : World} {r : Nat} {bs : List UInt8} {pos : Nat} {e : Int} (h : Rr w r bs pos e) (k : Kt Ts w w') (ht : 5 ∈ Ts) (hr : 76 ∈ Ts) : Rr w' r bs pos e := by
  obtain ⟨h1, h2, A, C, hh, hb⟩ := h
  exact ⟨h1, h2, A, C, k _ _ _ _ hh hr, hb.kt k ht⟩
theorem Rr.facts {w : World} {r : Nat} {bs : List UInt8} {pos : Nat} {e : Int} (h : Rr w r bs pos e) : ∃ A C, w.cell? ⟨r, 0, none⟩ = some (.slice A bs.length C) ∧ w.cell? ⟨r, 1, none⟩ = some (.int .i64 pos) ∧ w.cell? ⟨r, 2, none⟩ = some (.int .i64 e) ∧
    w.frozen? ⟨r, 1, none⟩ = false ∧ w.frozen? ⟨r, 2, none⟩ = false ∧ bs.length ≤ C ∧ C ≤ 9223372036854775807 ∧
    Hid (w.heap[r]? = some (.cells #[.slice A bs.length C, .int .i64 pos, .int .i64 e] 76 (0, 0))) ∧ Hid (Bt w (.slice A bs.length C) bs) ∧
    (0 < bs.length → ∃ g o, A = some ⟨g, o, none⟩ ∧ ∀ i, i < bs.length → w.cell? ⟨g, o + i, none⟩ = some (.int .u8 (((bs[i]?).getD 0).toNat : Int))) := by
  obtain ⟨_, _, A, C, hh, hb⟩ := h
  have hb' := hb
  obtain ⟨⟨a, c, he, h1, h2, h3, h4⟩, -⟩ := hb'
  injection he with e1 e2 e3
  subst e1 e3
  exact ⟨A, C, by rw [heap_cell hh 0]; rfl, by rw [heap_cell hh 1]; rfl, by rw [heap_cell hh 2]; rfl, heap_free hh 1, heap_free hh 2, h1, h2, hh, hb, h4⟩
/-- The place or the error is set. -/
theorem Rr.setPos {w : World} {r : Nat} {bs : List UInt8} {pos : Nat} {e : Int} (h : Rr w r bs pos e) (p : Nat) (hp : p ≤ bs.length) : Rr (w.setCell ⟨r, 1, none⟩ (.int .i64 p)) r bs p e := by
  obtain ⟨_, h2, A, C, hh, hb⟩ := h
  exact ⟨hp, h2, A, C, heap_set hh 1 _, hb.keep ((Kp.refl [r] w).setCell ⟨r, 1, none⟩ _ (by simp)) (hb.ne hh (by intro i k; rcases i with _ | _ | _ | i <;> simp))⟩
theorem Rr.setErr {w : World} {r : Nat} {bs : List UInt8} {pos : Nat} {e : Int} (h : Rr w r bs pos e) (c : Int) : Rr (w.setCell ⟨r, 2, none⟩ (.int .i64 c)) r bs pos c := by
  obtain ⟨h1, h2, A, C, hh, hb⟩ := h
  exact ⟨h1, h2, A, C, heap_set hh 2 _, hb.keep ((Kp.refl [r] w).setCell ⟨r, 2, none⟩ _ (by simp)) (hb.ne hh (by intro i k; rcases i with _ | _ | _ | i <;> simp))⟩

set_option maxHeartbeats 400000 in
theorem rnew_any {w : World} {v : Value} {xs : List UInt8} (h : Bs w v xs) (hlen : xs.length ≤ 35184372088832) :
    Calls Tryd.prog 25 #[v] w fun e w' => ∃ r, e = .returned (.pointer (some ⟨r, 0, none⟩)) ∧ w.heap.size ≤ r ∧ Kp [] w w' ∧ Rr w' r xs 0 0 := by
  have hbd := build_empty_bytes
  have HO := Lib.hid (Ob.lit (base := w.heap.size) (w := w) (Nat.le_refl _) #[] 0 [] rfl rfl (by omega))
  have HX := Lib.hid (h.kp ((Kp.refl [] w).alloc (.cells #[] 5)))
  obtain ⟨a, c, rfl, _⟩ := h
  go_enter Tryd.func25, Tryd.ntmps25
  go_wp2_with (at_builtin; refine app_b rfl (.tmp 3) (.tmp 4) rfl w.heap.size HO.out HX.out rfl rfl (by simp; omega) (by simp) ?_; intro v1 w1 ho hg _; simp only [List.nil_append] at ho; obtain ⟨A, C, rfl⟩ := ho.shape)
  go_ret
  have k1 : Kp [] w w1 := ((Kp.refl [] w).alloc _).grown hg (by intro k hk; exact .inr (by simp [Value.ownBlock] at hk; omega))
  exact ⟨_, rfl, k1.size, k1.alloc _, Nat.zero_le _, hlen, A, C, heap_alloc_new _ _, ho.bt.kp ((Kp.refl _ _).alloc _)⟩

set_option maxHeartbeats 400000 in
theorem rleft_any {w : World} {r : Nat} {bs : List UInt8} {pos : Nat} {e : Int} (h : Rr w r bs pos e) :
    Calls Tryd.prog 29 #[.pointer (some ⟨r, 0, none⟩)] w fun en w' => en = .returned (.int .i64 ((bs.length - pos : Nat) : Int)) ∧ ∃ n, w' = w.drewN n := by
  have h12 := h
  obtain ⟨hp, hl, _⟩ := h12
  obtain ⟨A, C, c0, c1, c2, f1, f2, n1, n2, H, HB, _⟩ := h.facts
  clear h
  go_enter Tryd.func29, Tryd.ntmps29
  go_wp2
  go_quiet (fail)
  go_wp2
  go_ret
  exact ⟨ret_int (by omega), _, rfl⟩

set_option maxHeartbeats 400000 in
theorem rend_any {w : World} {r : Nat} {bs : List UInt8} {pos : Nat} {e : Int} (h : Rr w r bs pos e) :
    Calls Tryd.prog 28 #[.pointer (some ⟨r, 0, none⟩)] w fun en w' => en = .returned (.int .i64 (endOf (bs.drop pos) e)) ∧ ∃ n, w' = w.drewN n := by
  have hL := rleft_any h
  obtain ⟨A, C, c0, c1, c2, f1, f2, n1, n2, H, HB, _⟩ := h.facts
  have hdl : (bs.drop pos).length = bs.length - pos := List.length_drop
  unfold endOf
  rw [hdl]
  clear h hdl
  generalize bs.length - pos = n at *
  by_cases he : e = 0
  · subst he
    by_cases hn : 0 < n
    · have tn : decide (0 < (n : Int)) = true := decide_eq_true (by omega)
      simp only [ne_eq, not_true_eq_false, if_false, if_pos hn]
      go_enter Tryd.func28, Tryd.ntmps28
      go_wp2_with (go_at_call 29; refine hL.mono ?_; rintro en w' ⟨rfl, q, rfl⟩)
      go_ret
      exact ⟨rfl, q, rfl⟩
    · have tn : decide (0 < (n : Int)) = false := decide_eq_false (by omega)
      simp only [ne_eq, not_true_eq_false, if_false, if_neg hn]
      go_enter Tryd.func28, Tryd.ntmps28
      go_wp2_with (go_at_call 29; refine hL.mono ?_; rintro en w' ⟨rfl, q, rfl⟩; have d2 : (w.drewN q).cell? ⟨r, 2, none⟩ = some (.int .i64 0) := c2)
      go_ret
      exact ⟨rfl, q, rfl⟩
  · have te : (e == 0) = false := by simpa using he
    simp only [ne_eq, he, not_false_eq_true, if_true]
    clear he
    go_enter Tryd.func28, Tryd.ntmps28
    go_wp2
    go_ret
    exact ⟨rfl, 0, rfl⟩

set_option maxHeartbeats 400000 in
/-- So many bytes from the place on, as a number. -/
theorem rnum_any {w : World} {r : Nat} {bs : List UInt8} {pos : Nat} {e : Int} (h : Rr w r bs pos e) (n : Nat) (hn : n ≤ bs.length - pos) (hbig : be ((bs.drop pos).take n) < 2 ^ 62) :
    Calls Tryd.prog 71 #[.pointer (some ⟨r, 0, none⟩), .int .i64 n] w fun en w' => en = .returned (.int .i64 (be ((bs.drop pos).take n) : Nat)) ∧ ∃ q, w' = w.drewN q := by
  obtain ⟨A, C, c0, c1, c2, f1, f2, n1, n2, H, HB, h4⟩ := h.facts
  have hp := h.1
  have hl := h.2.1
  generalize hxs : bs.drop pos = xs at *
  have hxl : xs.length = bs.length - pos := by rw [← hxs, List.length_drop]
  have hxg : ∀ k, (xs[k]?).getD 0 = (bs[pos + k]?).getD 0 := by intro k; rw [← hxs, List.getElem?_drop]
  clear h hxs
  go_enter Tryd.func71, Tryd.ntmps71
  go_wp2
  go_loopw [5, 6] (fun t i wr => ∃ k : Nat, k ≤ n ∧ i = .int .i64 k ∧ t = .int .i64 (be (xs.take k) : Nat) ∧ ∃ q, wr = w.drewN q) (fun _ i _ => n - (intOf i).toNat)
  case atStart => exact ⟨0, Nat.zero_le _, rfl, rfl, 0, rfl⟩
  case round =>
    obtain ⟨k, hk, rfl, rfl, hq0⟩ := hrel
    have HQ := Lib.hid hq0
    obtain ⟨q, hq⟩ := hq0
    by_cases hlt : k < n
    · obtain ⟨g, o, rfl, hc⟩ := h4 (by omega)
      have hck := hc (pos + k) (by omega)
      rw [← hxg] at hck
      clear hc h4 hxg
      have hb1 : be (xs.take k) < 2 ^ 55 := by
        have h1 := be_mono (xs.take (k + 1)) ((xs.take n).drop (k + 1))
        have e : xs.take (k + 1) ++ (xs.take n).drop (k + 1) = xs.take n := by
          rw [show xs.take (k + 1) = (xs.take n).take (k + 1) by rw [List.take_take]; congr 1; omega]
          exact List.take_append_drop _ _
        rw [e, take_snoc xs k (by omega), be_snoc] at h1
        omega
      have hb2 := u8_lt ((xs[k]?).getD 0)
      have hT := Lib.hid (take_snoc xs k (by omega))
      have d0 : wr.cell? ⟨r, 0, none⟩ = some (.slice (some ⟨g, o, none⟩) bs.length C) := by rw [hq]; exact c0
      have d1 : wr.cell? ⟨r, 1, none⟩ = some (.int .i64 pos) := by rw [hq]; exact c1
      have dk := (show wr.cell? ⟨g, o + (pos + k), none⟩ = w.cell? ⟨g, o + (pos + k), none⟩ by rw [hq]; rfl).trans hck
      clear c0 c1 hck hq
      go_wp2
      go_quiet (fail)
      go_wp2
      go_roundw
      case rel => exact ⟨k + 1, by omega, by go_num, by rw [shl8_or' _ _ hb1 hb2, hT.out, be_snoc], by obtain ⟨q', hq'⟩ := HQ.out; exact ⟨q' + _, by rw [hq', World.drewN_drewN]⟩⟩
      case measure => simp [intOf]; omega
    · have : k = n := by omega
      subst this
      clear hq
      go_wp2
      go_ret
      exact ⟨rfl, HQ.out⟩
end Go.Proofs.YtgmdcmkokdbeoaaDoor
