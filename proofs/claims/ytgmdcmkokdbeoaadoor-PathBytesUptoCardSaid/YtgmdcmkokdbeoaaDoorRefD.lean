/- The reader of the reference: Take. -/
import Derived.Test.YtgmdcmkokdbeoaaDoorRefC
import Derived.Deep.RegionHeld3
import Derived.Deep.DrawnRows
import Derived.Outline
set_option linter.unusedVariables false
namespace Go.Proofs.YtgmdcmkokdbeoaaDoor
open Go.RowKit

/-- Where 's[l:h]' begins. -/
theorem run_mid {P : Program} (t : TypeId) (ht : P.underlying t = some (.slice (P.elem t))) (hs : ∀ w, (sizeOf (P.elem t)).run P w = .ok 1 w) (a : Option Addr) (len cap l h : Nat) (h1 : l ≤ h) (h2 : h ≤ cap) (w : World) :
    (Instr.slice t (.slice a len cap) (some (.int .i64 (l : Int))) (some (.int .i64 (h : Int))) none).run P w = .ok (.slice (lowA a cap l) (h - l) (cap - l)) w := by
  rw [run_slice_lh (ht := ht) (h0 := by omega) (h1 := by omega) (h2 := by omega), hs]
  simp [Result.andThen, sliced, lowA]

def RtakePost (w : World) (r : Nat) (bs : List UInt8) (pos : Nat) (xs : List UInt8) (e : Int) (en : Ending) (w' : World) : Prop :=
  ∃ A C, en = .returned (.slice A xs.length C) ∧ Kp [r] w w' ∧ Ob w.heap.size w' (.slice A xs.length C) xs ∧ Rr w' r bs pos e

set_option maxHeartbeats 400000 in
theorem rtake_err {w : World} {r : Nat} {bs : List UInt8} {pos : Nat} {e : Int} (h : Rr w r bs pos e) (n : Nat) (he : e ≠ 0) :
    Calls Tryd.prog 55 #[.pointer (some ⟨r, 0, none⟩), .int .i64 n] w (RtakePost w r bs pos [] e) := by
  have he1 : (e != 0) = true := by simpa using he
  have h0 := Lib.hid h
  obtain ⟨A, C, c0, c1, c2, f1, f2, n1, n2, H, HB, _⟩ := h.facts
  clear h he
  go_enter Tryd.func55, Tryd.ntmps55
  go_wp2
  go_ret
  exact ⟨none, 0, rfl, Kp.refl _ _, Ob.nil _ _, h0.out⟩
set_option maxHeartbeats 400000 in
theorem rtake_end {w : World} {r : Nat} {bs : List UInt8} {pos : Nat} (h : Rr w r bs pos 0) (n : Nat) (hn : bs.length - pos < n) :
    Calls Tryd.prog 55 #[.pointer (some ⟨r, 0, none⟩), .int .i64 n] w (RtakePost w r bs pos [] 20) := by
  have h0 := Lib.hid h
  have hL := rleft_any h
  obtain ⟨A, C, c0, c1, c2, f1, f2, n1, n2, H, HB, _⟩ := h.facts
  generalize bs.length - pos = m at *
  have t0 : decide ((n : Int) < 0) = false := decide_eq_false (by omega)
  have t1 : decide ((m : Int) < (n : Int)) = true := decide_eq_true (by omega)
  clear h
  go_enter Tryd.func55, Tryd.ntmps55
  go_wp2_with (go_at_call 29; refine hL.mono ?_; rintro en w1 ⟨rfl, q, hq⟩; have kq : Kp [] w w1 := hq ▸ Kp.drewNs q; clear hq; have d2 := kq.get c2 (by simp); have g2 := (kq.frozen (p := ⟨r, 2, none⟩) (heap_lt H.out) (by simp)).trans f2)
  go_ret
  exact ⟨none, 0, rfl, kq.nil.setCell _ _ (by simp), Ob.nil _ _, (h0.out.kp kq).setErr 20⟩

set_option maxHeartbeats 1000000 in
theorem rtake_ok {w : World} {r : Nat} {bs : List UInt8} {pos : Nat} (h : Rr w r bs pos 0) (n : Nat) (hn : n ≤ bs.length - pos) :
    Calls Tryd.prog 55 #[.pointer (some ⟨r, 0, none⟩), .int .i64 n] w (RtakePost w r bs (pos + n) ((bs.drop pos).take n) 0) := by
  have h0 := Lib.hid h
  have hL := rleft_any h
  have hp := h.1
  have hl := h.2.1
  obtain ⟨A, C, c0, c1, c2, f1, f2, n1, n2, H, HB, _⟩ := h.facts
  obtain ⟨q, hq⟩ : ∃ q, q = pos + n := ⟨_, rfl⟩
  have t0 : decide ((n : Int) < 0) = false := decide_eq_false (by omega)
  obtain ⟨M, hM⟩ : ∃ M, M = bs.length - pos := ⟨_, rfl⟩
  rw [← hM] at hL
  have t1 : decide (M < n) = false := decide_eq_false (by omega)
  have hw : IntKind.i64.wrap ((pos : Int) + (n : Int)) = (q : Int) := by rw [hq]; rw [show (pos : Int) + (n : Int) = ((pos + n : Nat) : Int) by omega]; exact wrap_i64_nat _ (by omega)
  have hw2 : IntKind.i64.wrap ((q : Int) - (n : Int)) = (pos : Int) := by rw [hq]; rw [show ((pos + n : Nat) : Int) - (n : Int) = ((pos : Nat) : Int) by omega]; exact wrap_i64_nat _ (by omega)
  have hsl := run_mid (P := Tryd.prog) 22 elem_bytes size_bytes A bs.length C pos q (by omega) (by omega)
  rw [show q - pos = n by omega] at hsl
  have hbd := build_empty_bytes
  have HX := Lib.hid (show ∀ w', Kp [r] w w' → Bs w' (.slice (lowA A C pos) n (C - pos)) ((bs.drop pos).take n) from fun w' k => by
    have e1 := (HB.out.1.low pos hp).high n (by rw [List.length_drop]; omega)
    refine e1.keep k (fun b hb hl => ?_)
    exact HB.out.1.ne H.out (by intro i k; rcases i with _ | _ | _ | i <;> simp) b (lowA_blk hb) (by rw [List.length_take, List.length_drop] at hl; omega))
  have HL := Lib.hid (show ((bs.drop pos).take n).length = n by rw [List.length_take, List.length_drop]; omega)
  have Hn := Lib.hid hn
  have Hq := Lib.hid hq
  have hqb : q ≤ bs.length := by omega
  have Hqb := Lib.hid hqb
  have Hl := Lib.hid hl
  clear h hq hn hp hqb n1 n2 hl hM
  go_enter Tryd.func55, Tryd.ntmps55
  go_wp2_with (go_at_call 29; refine hL.mono ?_; rintro en w1 ⟨rfl, m, hm⟩; have kq : Kp [] w w1 := hm ▸ Kp.drewNs m; clear hm; have d0 := kq.get c0 (by simp); have d1 := kq.get c1 (by simp); have g1 := (kq.frozen (p := ⟨r, 1, none⟩) (heap_lt H.out) (by simp)).trans f1)
  have hne : r ≠ w1.heap.size := by have := heap_lt H.out; have := kq.size; omega
  have hS1 := (h0.out.kp kq).setPos q Hqb.out
  have kS : Kp [r] w (w1.setCell ⟨r, 1, none⟩ (.int .i64 (q : Int))) := kq.nil.setCell _ _ (by simp)
  have x0 : (w1.setCell ⟨r, 1, none⟩ (.int .i64 (q : Int))).cell? ⟨r, 0, none⟩ = some (.slice A bs.length C) := by go_simp
  have x1 : (w1.setCell ⟨r, 1, none⟩ (.int .i64 (q : Int))).cell? ⟨r, 1, none⟩ = some (.int .i64 (q : Int)) := by go_simp
  have HX1 := HX.out _ kS
  generalize w1.setCell ⟨r, 1, none⟩ (.int .i64 (q : Int)) = W1 at *
  have HO := Lib.hid ((Ob.lit (base := W1.heap.size) (w := W1.drew) (by simp) #[] 0 [] rfl rfl (by omega)))
  have HX2 := Lib.hid (HX1.kp (((Kp.refl [] W1).drew).alloc (.cells #[] 5)))
  have hnr : (Value.slice (some ⟨W1.heap.size, 0, none⟩) 0 0).ownBlock ≠ some r := by simp [Value.ownBlock]; have := heap_lt H.out; have := kS.size; omega
  have HS1 := Lib.hid hS1
  have HNB := Lib.hid (show ([] : List UInt8).length + ((bs.drop pos).take n).length ≤ 70368744177664 by have := Hn.out; have := Hl.out; rw [HL.out, List.length_nil]; omega)
  clear hS1 HX1
  go_region_held3 (fun w' => w'.cell? ⟨r, 0, none⟩ = some (.slice A bs.length C) ∧ w'.cell? ⟨r, 1, none⟩ = some (.int .i64 (q : Int)))
    (first | exact ⟨y0, y1⟩ | go_keep)
    (first | (refine step_app_b (by rfl) _ _ (by rfl) W1.heap.size HO.out HX2.out (by rfl) (by rfl) HNB.out (by simp) ?_; intro A3 C3 w3 o3 hg hat; have y0 := grown_cell hg r 0 (v := .slice A bs.length C) (by go_simp) hnr; have y1 := grown_cell hg r 1 (v := .int .i64 (q : Int)) (by go_simp) hnr))
  all_goals go_wp2
  go_ret
  simp only [List.nil_append, List.length_nil, Nat.zero_add] at o3 hg hat
  have hr0 : w.heap.size ≤ W1.heap.size := kS.size
  refine ⟨A3, C3, by simp, ?_, o3.mono hr0, ?_⟩
  · exact kS.old (((Kp.refl [] W1).drew.alloc _).grown hg (by intro k hk; exact .inr (by simp [Value.ownBlock] at hk; omega))) (by simp)
  · rw [← Hq.out]
    exact (HS1.out.kp (((Kp.refl [] W1).drew.alloc _).grown hg (by intro k hk; exact .inr (by simp [Value.ownBlock] at hk; omega))))
end Go.Proofs.YtgmdcmkokdbeoaaDoor
