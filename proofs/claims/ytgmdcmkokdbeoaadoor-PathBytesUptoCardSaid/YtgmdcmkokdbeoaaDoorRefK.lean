/- The leaf of the reference: ReadLeaf. -/
import Derived.Test.YtgmdcmkokdbeoaaDoorRefJ
set_option linter.unusedVariables false
namespace Go.Proofs.YtgmdcmkokdbeoaaDoor
open Go.RowKit

theorem Ob.qstep {base : Nat} {w w' : World} {r : Nat} {v : Value} {xs ys : List UInt8} {e : Int} (h : Ob base w v xs) (k : Kp [r] w w') (hr : Rq w r ys e) : Ob base w' v xs := by
  obtain ⟨cs, hc⟩ := hr.kind
  exact h.kt (Kt.one (Ts := [5]) k hc (by decide)) (by decide)
theorem Rq.set {w : World} {r : Nat} {xs : List UInt8} {e : Int} (h : Rq w r xs e) {b : Nat} {cs : Array Value} {t : TypeId} {f : Nat × Nat} (hb : w.heap[b]? = some (.cells cs t f)) (ht : t ∉ [5, 76]) (i : Nat) (v : Value) :
    Rq (w.setCell ⟨b, i, none⟩ v) r xs e :=
  h.kt (Kt.one (Ts := [5, 76]) ((Kp.refl [b] w).setCell ⟨b, i, none⟩ v (by simp)) hb ht) (by decide) (by decide)
theorem Rq.kpT {S : List Nat} {w w' : World} {r : Nat} {xs : List UInt8} {e : Int} (h : Rq w r xs e) (k : Kp S w w') (hS : ∀ b, b ∈ S → ∃ cs t f, w.heap[b]? = some (.cells cs t f) ∧ t ∉ [5, 76]) : Rq w' r xs e :=
  h.kt (Kt.of_kp (Ts := [5, 76]) k (fun b hb cs t f hc => by
    obtain ⟨cs', t', f', h1, h2⟩ := hS b hb
    rw [h1] at hc; cases hc; exact h2)) (by decide) (by decide)
/-- Not the reader's block. -/
theorem Rq.ne {w : World} {r : Nat} {xs : List UInt8} {e : Int} (h : Rq w r xs e) {b : Nat} {cs : Array Value} {t : TypeId} {f : Nat × Nat} (hb : w.heap[b]? = some (.cells cs t f)) (ht : t ≠ 76) : b ∉ [r] := by
  obtain ⟨cs', hc⟩ := h.kind
  intro hm
  simp at hm
  subst hm
  rw [hb] at hc; cases hc; exact ht rfl
def QLeafPost (r : Nat) (w : World) (t : LeafD × List UInt8 × Int) (e : Ending) (w' : World) : Prop := ∃ v, e = .returned v ∧ LeafO w.heap.size w' v t.1 ∧ Kp [r] w w' ∧ Rq w' r t.2.1 t.2.2
theorem nk1 (xs : List UInt8) (e : Int) : nk 1 xs e = n1 xs e := rfl

set_option maxRecDepth 100000 in
set_option maxHeartbeats 4000000 in
theorem qreadLeaf_any {w : World} {r : Nat} {xs : List UInt8} (h : Rq w r xs 0) :
    Calls Tryd.prog 53 #[.pointer (some ⟨r, 0, none⟩)] w (QLeafPost r w (rdLeaf xs)) := by
  rcases hA : v1 xs 0 with ⟨a, ya, ea⟩
  rcases hB : v1 ya ea with ⟨b, yb, eb⟩
  rcases hC : v1 yb eb with ⟨c, yc, ec⟩
  rcases hD : n1 yc ec with ⟨d, yd, ed⟩
  have hrl := h.lt
  have hV := qvec_any (h.kp ((Kp.refl [] w).alloc (.cells #[.slice none 0 0, .slice none 0 0, .slice none 0 0, .int .i64 0, .slice none 0 0, .slice none 0 0] 24)))
  rw [hA] at hV
  have K0 := Lib.hid ((Kp.refl [] w).alloc (.cells #[.slice none 0 0, .slice none 0 0, .slice none 0 0, .int .i64 0, .slice none 0 0, .slice none 0 0] 24))
  have Z0 := Lib.hid (heap_alloc_new w (.cells #[.slice none 0 0, .slice none 0 0, .slice none 0 0, .int .i64 0, .slice none 0 0, .slice none 0 0] 24))
  have R0 := Lib.hid (h.kp K0.out)
  have HA := Lib.hid hA
  have HBB := Lib.hid hB
  have HC := Lib.hid hC
  have HD := Lib.hid hD
  clear hA hB hC hD
  by_cases h3 : d = 3
  · subst h3
    rcases hE : v1 yd ed with ⟨hh, yh, eh⟩
    rcases hF : v1 yh eh with ⟨s, ys, es⟩
    have hR : rdLeaf xs = (⟨a, b, c, 3, hh, s⟩, ys, es) := by simp [rdLeaf, HA.out, HBB.out, HC.out, HD.out, hE, hF]
    rw [hR]
    have HE := Lib.hid hE
    have HF := Lib.hid hF
    clear hE hF hR
    go_enter Tryd.func53, Tryd.ntmps53
    go_wp2_with fail
    refine hV.mono ?_
    rintro en w1 ⟨A0, C0, rfl, k1, o0, r1⟩
    have z1 := k1.size
    simp only [World.size_alloc] at z1
    have Z1 := Lib.hid (k1.obj Z0.out (R0.out.ne Z0.out (by decide)))
    have KL := Lib.hid ((Kp.refl [] w1).alloc (.cells #[.slice A0 a.length C0, .slice none 0 0, .slice none 0 0, .int .i64 0, .slice none 0 0, .slice none 0 0] 24))
    have B1 := Lib.hid (heap_alloc_new w1 (.cells #[.slice A0 a.length C0, .slice none 0 0, .slice none 0 0, .int .i64 0, .slice none 0 0, .slice none 0 0] 24))
    have R1 := Lib.hid (r1.kp KL.out)
    have Z1a := Lib.hid (KL.out.obj Z1.out (by simp))
    go_wp2_with fail
    have hV2 := qvec_any R1.out
    rw [HBB.out] at hV2
    refine hV2.mono ?_
    rintro en w2 ⟨A1, C1, rfl, k2, o2, r2⟩
    have z2 := k2.size
    simp only [World.size_alloc, World.size_setCell] at z2
    have B2 := Lib.hid (k2.obj B1.out (R1.out.ne B1.out (by decide)))
    have Z2 := Lib.hid (k2.obj Z1a.out (R1.out.ne Z1a.out (by decide)))
    have s2 : w2.cell? ⟨w1.heap.size, 1, none⟩ = some (.slice none 0 0) := heap_cell B2.out 1
    have f2 := heap_free B2.out 1
    have Bs2 := Lib.hid (heap_set B2.out 1 (.slice A1 b.length C1))
    have Zs2 := Lib.hid (set_obj Z2.out w1.heap.size 1 (.slice A1 b.length C1) (by omega))
    have Rs2 := Lib.hid (r2.set B2.out (by decide) 1 (.slice A1 b.length C1))
    go_wp2_with fail
    have hV3 := qvec_any Rs2.out
    rw [HC.out] at hV3
    refine hV3.mono ?_
    rintro en w3 ⟨A2, C2, rfl, k3, o3, r3⟩
    have z3 := k3.size
    simp only [World.size_alloc, World.size_setCell] at z3
    have B3 := Lib.hid (k3.obj Bs2.out (Rs2.out.ne Bs2.out (by decide)))
    have Z3 := Lib.hid (k3.obj Zs2.out (Rs2.out.ne Zs2.out (by decide)))
    have s3 : w3.cell? ⟨w1.heap.size, 2, none⟩ = some (.slice none 0 0) := heap_cell B3.out 2
    have f3 := heap_free B3.out 2
    have Bs3 := Lib.hid (heap_set B3.out 2 (.slice A2 c.length C2))
    have Zs3 := Lib.hid (set_obj Z3.out w1.heap.size 2 (.slice A2 c.length C2) (by omega))
    have Rs3 := Lib.hid (r3.set B3.out (by decide) 2 (.slice A2 c.length C2))
    go_wp2_with fail
    have hV4 := qnum_any Rs3.out 1 (.inl rfl)
    rw [nk1, HD.out] at hV4
    refine hV4.mono ?_
    rintro en w4 ⟨rfl, k4, r4⟩
    have z4 := k4.size
    simp only [World.size_alloc, World.size_setCell] at z4
    have B4 := Lib.hid (k4.obj Bs3.out (Rs3.out.ne Bs3.out (by decide)))
    have Z4 := Lib.hid (k4.obj Zs3.out (Rs3.out.ne Zs3.out (by decide)))
    have s4 : w4.cell? ⟨w1.heap.size, 3, none⟩ = some (.int .i64 0) := heap_cell B4.out 3
    have f4 := heap_free B4.out 3
    have Bs4 := Lib.hid (heap_set B4.out 3 (.int .i64 3))
    have Zs4 := Lib.hid (set_obj Z4.out w1.heap.size 3 (.int .i64 3) (by omega))
    have Rs4 := Lib.hid (r4.set B4.out (by decide) 3 (.int .i64 3))
    go_wp2_with fail
    have hV5 := qvec_any Rs4.out
    rw [HE.out] at hV5
    refine hV5.mono ?_
    rintro en w5 ⟨A3, C3, rfl, k5, o5, r5⟩
    have z5 := k5.size
    simp only [World.size_alloc, World.size_setCell] at z5
    have B5 := Lib.hid (k5.obj Bs4.out (Rs4.out.ne Bs4.out (by decide)))
    have Z5 := Lib.hid (k5.obj Zs4.out (Rs4.out.ne Zs4.out (by decide)))
    have s5 : w5.cell? ⟨w1.heap.size, 4, none⟩ = some (.slice none 0 0) := heap_cell B5.out 4
    have f5 := heap_free B5.out 4
    have Bs5 := Lib.hid (heap_set B5.out 4 (.slice A3 hh.length C3))
    have Zs5 := Lib.hid (set_obj Z5.out w1.heap.size 4 (.slice A3 hh.length C3) (by omega))
    have Rs5 := Lib.hid (r5.set B5.out (by decide) 4 (.slice A3 hh.length C3))
    go_wp2_with fail
    have hV6 := qvec_any Rs5.out
    rw [HF.out] at hV6
    refine hV6.mono ?_
    rintro en w6 ⟨A4, C4, rfl, k6, o6, r6⟩
    have z6 := k6.size
    simp only [World.size_alloc, World.size_setCell] at z6
    have B6 := Lib.hid (k6.obj Bs5.out (Rs5.out.ne Bs5.out (by decide)))
    have Z6 := Lib.hid (k6.obj Zs5.out (Rs5.out.ne Zs5.out (by decide)))
    have c0 : w6.cell? ⟨w1.heap.size, 0, none⟩ = some (.slice A0 a.length C0) := heap_cell B6.out 0
    have c1 : w6.cell? ⟨w1.heap.size, 1, none⟩ = some (.slice A1 b.length C1) := heap_cell B6.out 1
    have c2 : w6.cell? ⟨w1.heap.size, 2, none⟩ = some (.slice A2 c.length C2) := heap_cell B6.out 2
    have c3 : w6.cell? ⟨w1.heap.size, 3, none⟩ = some (.int .i64 3) := heap_cell B6.out 3
    have c4 : w6.cell? ⟨w1.heap.size, 4, none⟩ = some (.slice A3 hh.length C3) := heap_cell B6.out 4
    have c5 : w6.cell? ⟨w1.heap.size, 5, none⟩ = some (.slice none 0 0) := heap_cell B6.out 5
    have fz5 := heap_free B6.out 5
    have t0 : w6.cell? ⟨w.heap.size, 0, none⟩ = some (.slice none 0 0) := heap_cell Z6.out 0
    have g0 := heap_free Z6.out 0
    have t1 : w6.cell? ⟨w.heap.size, 1, none⟩ = some (.slice none 0 0) := heap_cell Z6.out 1
    have g1 := heap_free Z6.out 1
    have t2 : w6.cell? ⟨w.heap.size, 2, none⟩ = some (.slice none 0 0) := heap_cell Z6.out 2
    have g2 := heap_free Z6.out 2
    have t3 : w6.cell? ⟨w.heap.size, 3, none⟩ = some (.int .i64 0) := heap_cell Z6.out 3
    have g3 := heap_free Z6.out 3
    have t4 : w6.cell? ⟨w.heap.size, 4, none⟩ = some (.slice none 0 0) := heap_cell Z6.out 4
    have g4 := heap_free Z6.out 4
    have t5 : w6.cell? ⟨w.heap.size, 5, none⟩ = some (.slice none 0 0) := heap_cell Z6.out 5
    have g5 := heap_free Z6.out 5
    have hne : w.heap.size ≠ w1.heap.size := by omega
    go_wp2
    have K7 : Kp [w1.heap.size, w.heap.size] w6 _ := (((((((Kp.refl [w1.heap.size, w.heap.size] w6).setCell ⟨w1.heap.size, 5, none⟩ (.slice A4 s.length C4) (by simp)).setCell ⟨w.heap.size, 0, none⟩ (.slice A0 a.length C0) (by simp)).setCell ⟨w.heap.size, 1, none⟩ (.slice A1 b.length C1) (by simp)).setCell ⟨w.heap.size, 2, none⟩ (.slice A2 c.length C2) (by simp)).setCell ⟨w.heap.size, 3, none⟩ (.int .i64 3) (by simp)).setCell ⟨w.heap.size, 4, none⟩ (.slice A3 hh.length C3) (by simp)).setCell ⟨w.heap.size, 5, none⟩ (.slice A4 s.length C4) (by simp)
    have hT : ∀ b, b ∈ [w1.heap.size, w.heap.size] → ∃ cs t f, w6.heap[b]? = some (.cells cs t f) ∧ t ∉ [5, 76] := by
      intro b hb
      simp at hb
      rcases hb with rfl | rfl
      · exact ⟨_, _, _, B6.out, by decide⟩
      · exact ⟨_, _, _, Z6.out, by decide⟩
    have hT8 : ∀ b, b ∈ [w1.heap.size, w.heap.size] → ∃ cs t f, w6.heap[b]? = some (.cells cs t f) ∧ t ≠ 5 := by
      intro b hb
      obtain ⟨cs, t, f, h1, h2⟩ := hT b hb
      exact ⟨cs, t, f, h1, fun e => h2 (by rw [e]; decide)⟩
    refine bodyPost_ret (v := .agg #[.slice A0 a.length C0, .slice A1 b.length C1, .slice A2 c.length C2, .int .i64 3, .slice A3 hh.length C3, .slice A4 s.length C4]) (by simp [results, Tryd.results53, go_sem, t0, t1, t2, t3, t4, t5]) rfl
      ⟨_, rfl, ⟨A0, A1, A2, A3, A4, C0, C1, C2, C3, C4, rfl, (((((((((((o0.mono (by (try simp only [World.size_alloc, World.size_setCell]); omega)).kp KL.out (by simp)).qstep k2 R1.out).set B2.out (by decide) 1 (.slice A1 b.length C1)).qstep k3 Rs2.out).set B3.out (by decide) 2 (.slice A2 c.length C2)).qstep k4 Rs3.out).set B4.out (by decide) 3 (.int .i64 3)).qstep k5 Rs4.out).set B5.out (by decide) 4 (.slice A3 hh.length C3)).qstep k6 Rs5.out).kpT K7 hT8, (((((((((o2.mono (by (try simp only [World.size_alloc, World.size_setCell]); omega)).set B2.out (by decide) 1 (.slice A1 b.length C1)).qstep k3 Rs2.out).set B3.out (by decide) 2 (.slice A2 c.length C2)).qstep k4 Rs3.out).set B4.out (by decide) 3 (.int .i64 3)).qstep k5 Rs4.out).set B5.out (by decide) 4 (.slice A3 hh.length C3)).qstep k6 Rs5.out).kpT K7 hT8, (((((((o3.mono (by (try simp only [World.size_alloc, World.size_setCell]); omega)).set B3.out (by decide) 2 (.slice A2 c.length C2)).qstep k4 Rs3.out).set B4.out (by decide) 3 (.int .i64 3)).qstep k5 Rs4.out).set B5.out (by decide) 4 (.slice A3 hh.length C3)).qstep k6 Rs5.out).kpT K7 hT8, (((o5.mono (by (try simp only [World.size_alloc, World.size_setCell]); omega)).set B5.out (by decide) 4 (.slice A3 hh.length C3)).qstep k6 Rs5.out).kpT K7 hT8, (o6.mono (by (try simp only [World.size_alloc, World.size_setCell]); omega)).kpT K7 hT8⟩, ?_, r6.kpT K7 hT⟩
    exact (((((((((((((((((((((K0.out.nil.trans k1).trans KL.out.nil)).trans k2)).setCell ⟨w1.heap.size, 1, none⟩ (.slice A1 b.length C1) (.inr (show w.heap.size ≤ w1.heap.size by omega)))).trans k3)).setCell ⟨w1.heap.size, 2, none⟩ (.slice A2 c.length C2) (.inr (show w.heap.size ≤ w1.heap.size by omega)))).trans k4)).setCell ⟨w1.heap.size, 3, none⟩ (.int .i64 3) (.inr (show w.heap.size ≤ w1.heap.size by omega)))).trans k5)).setCell ⟨w1.heap.size, 4, none⟩ (.slice A3 hh.length C3) (.inr (show w.heap.size ≤ w1.heap.size by omega)))).trans k6)).old K7 (by intro x hx; simp at hx; omega)
  · have h3' : (d == 3) = false := by simpa using h3
    rcases hF : v1 yd ed with ⟨s, ys, es⟩
    have hR : rdLeaf xs = (⟨a, b, c, d, [], s⟩, ys, es) := by simp [rdLeaf, HA.out, HBB.out, HC.out, HD.out, hF, h3]
    rw [hR]
    have HF := Lib.hid hF
    clear hF hR h3
    go_enter Tryd.func53, Tryd.ntmps53
    go_wp2_with fail
    refine hV.mono ?_
    rintro en w1 ⟨A0, C0, rfl, k1, o0, r1⟩
    have z1 := k1.size
    simp only [World.size_alloc] at z1
    have Z1 := Lib.hid (k1.obj Z0.out (R0.out.ne Z0.out (by decide)))
    have KL := Lib.hid ((Kp.refl [] w1).alloc (.cells #[.slice A0 a.length C0, .slice none 0 0, .slice none 0 0, .int .i64 0, .slice none 0 0, .slice none 0 0] 24))
    have B1 := Lib.hid (heap_alloc_new w1 (.cells #[.slice A0 a.length C0, .slice none 0 0, .slice none 0 0, .int .i64 0, .slice none 0 0, .slice none 0 0] 24))
    have R1 := Lib.hid (r1.kp KL.out)
    have Z1a := Lib.hid (KL.out.obj Z1.out (by simp))
    go_wp2_with fail
    have hV2 := qvec_any R1.out
    rw [HBB.out] at hV2
    refine hV2.mono ?_
    rintro en w2 ⟨A1, C1, rfl, k2, o2, r2⟩
    have z2 := k2.size
    simp only [World.size_alloc, World.size_setCell] at z2
    have B2 := Lib.hid (k2.obj B1.out (R1.out.ne B1.out (by decide)))
    have Z2 := Lib.hid (k2.obj Z1a.out (R1.out.ne Z1a.out (by decide)))
    have s2 : w2.cell? ⟨w1.heap.size, 1, none⟩ = some (.slice none 0 0) := heap_cell B2.out 1
    have f2 := heap_free B2.out 1
    have Bs2 := Lib.hid (heap_set B2.out 1 (.slice A1 b.length C1))
    have Zs2 := Lib.hid (set_obj Z2.out w1.heap.size 1 (.slice A1 b.length C1) (by omega))
    have Rs2 := Lib.hid (r2.set B2.out (by decide) 1 (.slice A1 b.length C1))
    go_wp2_with fail
    have hV3 := qvec_any Rs2.out
    rw [HC.out] at hV3
    refine hV3.mono ?_
    rintro en w3 ⟨A2, C2, rfl, k3, o3, r3⟩
    have z3 := k3.size
    simp only [World.size_alloc, World.size_setCell] at z3
    have B3 := Lib.hid (k3.obj Bs2.out (Rs2.out.ne Bs2.out (by decide)))
    have Z3 := Lib.hid (k3.obj Zs2.out (Rs2.out.ne Zs2.out (by decide)))
    have s3 : w3.cell? ⟨w1.heap.size, 2, none⟩ = some (.slice none 0 0) := heap_cell B3.out 2
    have f3 := heap_free B3.out 2
    have Bs3 := Lib.hid (heap_set B3.out 2 (.slice A2 c.length C2))
    have Zs3 := Lib.hid (set_obj Z3.out w1.heap.size 2 (.slice A2 c.length C2) (by omega))
    have Rs3 := Lib.hid (r3.set B3.out (by decide) 2 (.slice A2 c.length C2))
    go_wp2_with fail
    have hV4 := qnum_any Rs3.out 1 (.inl rfl)
    rw [nk1, HD.out] at hV4
    refine hV4.mono ?_
    rintro en w4 ⟨rfl, k4, r4⟩
    have z4 := k4.size
    simp only [World.size_alloc, World.size_setCell] at z4
    have B4 := Lib.hid (k4.obj Bs3.out (Rs3.out.ne Bs3.out (by decide)))
    have Z4 := Lib.hid (k4.obj Zs3.out (Rs3.out.ne Zs3.out (by decide)))
    have s4 : w4.cell? ⟨w1.heap.size, 3, none⟩ = some (.int .i64 0) := heap_cell B4.out 3
    have f4 := heap_free B4.out 3
    have Bs4 := Lib.hid (heap_set B4.out 3 (.int .i64 d))
    have Zs4 := Lib.hid (set_obj Z4.out w1.heap.size 3 (.int .i64 d) (by omega))
    have Rs4 := Lib.hid (r4.set B4.out (by decide) 3 (.int .i64 d))
    go_wp2_with fail
    have hV5 := qvec_any Rs4.out
    rw [HF.out] at hV5
    refine hV5.mono ?_
    rintro en w5 ⟨A4, C4, rfl, k5, o5, r5⟩
    have z5 := k5.size
    simp only [World.size_alloc, World.size_setCell] at z5
    have B5 := Lib.hid (k5.obj Bs4.out (Rs4.out.ne Bs4.out (by decide)))
    have Z5 := Lib.hid (k5.obj Zs4.out (Rs4.out.ne Zs4.out (by decide)))
    have c0 : w5.cell? ⟨w1.heap.size, 0, none⟩ = some (.slice A0 a.length C0) := heap_cell B5.out 0
    have c1 : w5.cell? ⟨w1.heap.size, 1, none⟩ = some (.slice A1 b.length C1) := heap_cell B5.out 1
    have c2 : w5.cell? ⟨w1.heap.size, 2, none⟩ = some (.slice A2 c.length C2) := heap_cell B5.out 2
    have c3 : w5.cell? ⟨w1.heap.size, 3, none⟩ = some (.int .i64 d) := heap_cell B5.out 3
    have c4 : w5.cell? ⟨w1.heap.size, 4, none⟩ = some (.slice none 0 0) := heap_cell B5.out 4
    have c5 : w5.cell? ⟨w1.heap.size, 5, none⟩ = some (.slice none 0 0) := heap_cell B5.out 5
    have fz5 := heap_free B5.out 5
    have t0 : w5.cell? ⟨w.heap.size, 0, none⟩ = some (.slice none 0 0) := heap_cell Z5.out 0
    have g0 := heap_free Z5.out 0
    have t1 : w5.cell? ⟨w.heap.size, 1, none⟩ = some (.slice none 0 0) := heap_cell Z5.out 1
    have g1 := heap_free Z5.out 1
    have t2 : w5.cell? ⟨w.heap.size, 2, none⟩ = some (.slice none 0 0) := heap_cell Z5.out 2
    have g2 := heap_free Z5.out 2
    have t3 : w5.cell? ⟨w.heap.size, 3, none⟩ = some (.int .i64 0) := heap_cell Z5.out 3
    have g3 := heap_free Z5.out 3
    have t4 : w5.cell? ⟨w.heap.size, 4, none⟩ = some (.slice none 0 0) := heap_cell Z5.out 4
    have g4 := heap_free Z5.out 4
    have t5 : w5.cell? ⟨w.heap.size, 5, none⟩ = some (.slice none 0 0) := heap_cell Z5.out 5
    have g5 := heap_free Z5.out 5
    have hne : w.heap.size ≠ w1.heap.size := by omega
    go_wp2
    have K7 : Kp [w1.heap.size, w.heap.size] w5 _ := (((((((Kp.refl [w1.heap.size, w.heap.size] w5).setCell ⟨w1.heap.size, 5, none⟩ (.slice A4 s.length C4) (by simp)).setCell ⟨w.heap.size, 0, none⟩ (.slice A0 a.length C0) (by simp)).setCell ⟨w.heap.size, 1, none⟩ (.slice A1 b.length C1) (by simp)).setCell ⟨w.heap.size, 2, none⟩ (.slice A2 c.length C2) (by simp)).setCell ⟨w.heap.size, 3, none⟩ (.int .i64 d) (by simp)).setCell ⟨w.heap.size, 4, none⟩ (.slice none 0 0) (by simp)).setCell ⟨w.heap.size, 5, none⟩ (.slice A4 s.length C4) (by simp)
    have hT : ∀ b, b ∈ [w1.heap.size, w.heap.size] → ∃ cs t f, w5.heap[b]? = some (.cells cs t f) ∧ t ∉ [5, 76] := by
      intro b hb
      simp at hb
      rcases hb with rfl | rfl
      · exact ⟨_, _, _, B5.out, by decide⟩
      · exact ⟨_, _, _, Z5.out, by decide⟩
    have hT8 : ∀ b, b ∈ [w1.heap.size, w.heap.size] → ∃ cs t f, w5.heap[b]? = some (.cells cs t f) ∧ t ≠ 5 := by
      intro b hb
      obtain ⟨cs, t, f, h1, h2⟩ := hT b hb
      exact ⟨cs, t, f, h1, fun e => h2 (by rw [e]; decide)⟩
    refine bodyPost_ret (v := .agg #[.slice A0 a.length C0, .slice A1 b.length C1, .slice A2 c.length C2, .int .i64 d, .slice none 0 0, .slice A4 s.length C4]) (by simp [results, Tryd.results53, go_sem, t0, t1, t2, t3, t4, t5]) rfl
      ⟨_, rfl, ⟨A0, A1, A2, none, A4, C0, C1, C2, 0, C4, rfl, (((((((((o0.mono (by (try simp only [World.size_alloc, World.size_setCell]); omega)).kp KL.out (by simp)).qstep k2 R1.out).set B2.out (by decide) 1 (.slice A1 b.length C1)).qstep k3 Rs2.out).set B3.out (by decide) 2 (.slice A2 c.length C2)).qstep k4 Rs3.out).set B4.out (by decide) 3 (.int .i64 d)).qstep k5 Rs4.out).kpT K7 hT8, (((((((o2.mono (by (try simp only [World.size_alloc, World.size_setCell]); omega)).set B2.out (by decide) 1 (.slice A1 b.length C1)).qstep k3 Rs2.out).set B3.out (by decide) 2 (.slice A2 c.length C2)).qstep k4 Rs3.out).set B4.out (by decide) 3 (.int .i64 d)).qstep k5 Rs4.out).kpT K7 hT8, (((((o3.mono (by (try simp only [World.size_alloc, World.size_setCell]); omega)).set B3.out (by decide) 2 (.slice A2 c.length C2)).qstep k4 Rs3.out).set B4.out (by decide) 3 (.int .i64 d)).qstep k5 Rs4.out).kpT K7 hT8, Ob.nil _ _, (o5.mono (by (try simp only [World.size_alloc, World.size_setCell]); omega)).kpT K7 hT8⟩, ?_, r5.kpT K7 hT⟩
    exact (((((((((((((((((K0.out.nil.trans k1).trans KL.out.nil)).trans k2)).setCell ⟨w1.heap.size, 1, none⟩ (.slice A1 b.length C1) (.inr (show w.heap.size ≤ w1.heap.size by omega)))).trans k3)).setCell ⟨w1.heap.size, 2, none⟩ (.slice A2 c.length C2) (.inr (show w.heap.size ≤ w1.heap.size by omega)))).trans k4)).setCell ⟨w1.heap.size, 3, none⟩ (.int .i64 d) (.inr (show w.heap.size ≤ w1.heap.size by omega)))).trans k5)).old K7 (by intro x hx; simp at hx; omega)
end Go.Proofs.YtgmdcmkokdbeoaaDoor
