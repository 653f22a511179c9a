/- SameLeaf; a leaf is copied. -/
import Derived.Test.YtgmdcmkokdbeoaaDoorLawA
set_option linter.unusedVariables false
set_option linter.unusedSimpArgs false
namespace Go.Proofs.YtgmdcmkokdbeoaaDoor
open Go.RowKit

set_option maxRecDepth 100000 in
set_option maxHeartbeats 2000000 in
theorem sameLeaf_any {w : World} {u v : Value} {l : LeafD} (hu : LeafV w u l) (hv : LeafV w v l) :
    Calls Tryd.prog 30 #[u, v] w fun e w' => e = .returned (.bool true) ∧ Kp [] w w' := by
  obtain ⟨aA0, aA1, aA2, aA3, aA4, aC0, aC1, aC2, aC3, aC4, rfl, a0, a1, a2, a3, a4⟩ := hu
  obtain ⟨bA0, bA1, bA2, bA3, bA4, bC0, bC1, bC2, bC3, bC4, rfl, b0, b1, b2, b3, b4⟩ := hv
  have K := Lib.hid (show Kp [] w ((w.alloc (.cells #[.slice aA0 l.enc.length aC0, .slice aA1 l.sig.length aC1, .slice aA2 l.name.length aC2, .int .i64 l.src, .slice aA3 l.hash.length aC3, .slice aA4 l.sgn.length aC4] 29)).alloc (.cells #[.slice bA0 l.enc.length bC0, .slice bA1 l.sig.length bC1, .slice bA2 l.name.length bC2, .int .i64 l.src, .slice bA3 l.hash.length bC3, .slice bA4 l.sgn.length bC4] 24)) from ((Kp.refl [] w).alloc _).alloc _)
  have ca0 := bs_string (a0.kp K.out)
  have ca1 := bs_string (a1.kp K.out)
  have ca2 := bs_string (a2.kp K.out)
  have ca3 := bs_string (a3.kp K.out)
  have ca4 := bs_string (a4.kp K.out)
  have cb0 := bs_string (b0.kp K.out)
  have cb1 := bs_string (b1.kp K.out)
  have cb2 := bs_string (b2.kp K.out)
  have cb3 := bs_string (b3.kp K.out)
  have cb4 := bs_string (b4.kp K.out)
  clear a0 a1 a2 a3 a4 b0 b1 b2 b3 b4
  generalize strOf l.enc = s0, strOf l.sig = s1, strOf l.name = s2, strOf l.hash = s3, strOf l.sgn = s4 at *
  generalize l.enc.length = m0, l.sig.length = m1, l.name.length = m2, l.hash.length = m3, l.sgn.length = m4, l.src = z at *
  go_enter Tryd.func30, Tryd.ntmps30
  go_wp2
  go_ret
  exact ⟨rfl, K.out⟩



/-- A leaf is copied. -/
theorem hcopy {w W' : World} {v : Value} {xs : List UInt8} (hb : Bs w v xs) (hl : xs.length ≤ 35184372088832) (k : Kp [] w W') {O1 O2 : Obj} (h1 : W'.heap[w.heap.size]? = some O1) (h2 : W'.heap[w.heap.size + 1]? = some O2) :
    Calls Tryd.prog 32 #[v] W' fun e w' => ∃ A C, e = .returned (.slice A xs.length C) ∧ Kp [] W' w' ∧ Kp [] w w' ∧ w'.heap[w.heap.size]? = some O1 ∧ w'.heap[w.heap.size + 1]? = some O2 ∧ Ob (w.heap.size + 2) w' (.slice A xs.length C) xs :=
  (copied_any (hb.kp k) hl).mono fun _ _ ⟨A, C, he, k1, o1⟩ => ⟨A, C, he, k1, k.trans k1, k1.obj h1 (by simp), k1.obj h2 (by simp), o1.mono (heap_lt h2)⟩

set_option maxRecDepth 100000 in
set_option maxHeartbeats 4000000 in
theorem lawLeaf_any {w : World} {v : Value} {l : LeafD} (h : LeafV w v l) (hm : l.enc.length ≤ 2097152 ∧ l.sig.length ≤ 2097152 ∧ l.name.length ≤ 2097152 ∧ l.hash.length ≤ 2097152 ∧ l.sgn.length ≤ 2097152) :
    Calls Tryd.prog 14 #[v] w fun e w' => ∃ u, e = .returned u ∧ LeafO w.heap.size w' u l ∧ Kp [] w w' := by
  obtain ⟨A0, A1, A2, A3, A4, C0, C1, C2, C3, C4, rfl, b0, b1, b2, b3, b4⟩ := h
  obtain ⟨m0, m1, m2, m3, m4⟩ := hm
  have H0 := Lib.hid (fun (W' : World) (k : Kp [] w W') (h1 : W'.heap[w.heap.size]? = some (.cells #[.slice A0 l.enc.length C0, .slice A1 l.sig.length C1, .slice A2 l.name.length C2, .int .i64 l.src, .slice A3 l.hash.length C3, .slice A4 l.sgn.length C4] 24 (0, 0))) (h2 : W'.heap[w.heap.size + 1]? = some (.cells #[.slice none 0 0, .slice none 0 0, .slice none 0 0, .int .i64 0, .slice none 0 0, .slice none 0 0] 29 (0, 0))) => hcopy b0 (by omega) k h1 h2)
  have H1 := Lib.hid (fun (W' : World) (k : Kp [] w W') (h1 : W'.heap[w.heap.size]? = some (.cells #[.slice A0 l.enc.length C0, .slice A1 l.sig.length C1, .slice A2 l.name.length C2, .int .i64 l.src, .slice A3 l.hash.length C3, .slice A4 l.sgn.length C4] 24 (0, 0))) (h2 : W'.heap[w.heap.size + 1]? = some (.cells #[.slice none 0 0, .slice none 0 0, .slice none 0 0, .int .i64 0, .slice none 0 0, .slice none 0 0] 29 (0, 0))) => hcopy b1 (by omega) k h1 h2)
  have H2 := Lib.hid (fun (W' : World) (k : Kp [] w W') (h1 : W'.heap[w.heap.size]? = some (.cells #[.slice A0 l.enc.length C0, .slice A1 l.sig.length C1, .slice A2 l.name.length C2, .int .i64 l.src, .slice A3 l.hash.length C3, .slice A4 l.sgn.length C4] 24 (0, 0))) (h2 : W'.heap[w.heap.size + 1]? = some (.cells #[.slice none 0 0, .slice none 0 0, .slice none 0 0, .int .i64 0, .slice none 0 0, .slice none 0 0] 29 (0, 0))) => hcopy b2 (by omega) k h1 h2)
  have H3 := Lib.hid (fun (W' : World) (k : Kp [] w W') (h1 : W'.heap[w.heap.size]? = some (.cells #[.slice A0 l.enc.length C0, .slice A1 l.sig.length C1, .slice A2 l.name.length C2, .int .i64 l.src, .slice A3 l.hash.length C3, .slice A4 l.sgn.length C4] 24 (0, 0))) (h2 : W'.heap[w.heap.size + 1]? = some (.cells #[.slice none 0 0, .slice none 0 0, .slice none 0 0, .int .i64 0, .slice none 0 0, .slice none 0 0] 29 (0, 0))) => hcopy b3 (by omega) k h1 h2)
  have H4 := Lib.hid (fun (W' : World) (k : Kp [] w W') (h1 : W'.heap[w.heap.size]? = some (.cells #[.slice A0 l.enc.length C0, .slice A1 l.sig.length C1, .slice A2 l.name.length C2, .int .i64 l.src, .slice A3 l.hash.length C3, .slice A4 l.sgn.length C4] 24 (0, 0))) (h2 : W'.heap[w.heap.size + 1]? = some (.cells #[.slice none 0 0, .slice none 0 0, .slice none 0 0, .int .i64 0, .slice none 0 0, .slice none 0 0] 29 (0, 0))) => hcopy b4 (by omega) k h1 h2)
  clear b0 b1 b2 b3 b4 m0 m1 m2 m3 m4
  go_enter Tryd.func14, Tryd.ntmps14
  go_wp2_with fail
  go_region_held3 (fun w' => w'.cell? ⟨w.heap.size, 0, none⟩ = some (.slice A0 l.enc.length C0) ∧ w'.cell? ⟨w.heap.size, 1, none⟩ = some (.slice A1 l.sig.length C1) ∧ w'.cell? ⟨w.heap.size, 2, none⟩ = some (.slice A2 l.name.length C2) ∧ w'.cell? ⟨w.heap.size, 3, none⟩ = some (.int .i64 l.src) ∧ w'.cell? ⟨w.heap.size, 4, none⟩ = some (.slice A3 l.hash.length C3) ∧ w'.cell? ⟨w.heap.size, 5, none⟩ = some (.slice A4 l.sgn.length C4))
    (first | with_reducible exact ⟨x00, x01, x02, x03, x04, x05⟩ | with_reducible exact ⟨x10, x11, x12, x13, x14, x15⟩ | with_reducible exact ⟨x20, x21, x22, x23, x24, x25⟩ | with_reducible exact ⟨x30, x31, x32, x33, x34, x35⟩ | with_reducible exact ⟨x40, x41, x42, x43, x44, x45⟩ | go_keep)
    (first | (go_at_call 32; (with_reducible refine (H0.out _ ?_ ?_ ?_).mono ?_); (focus (repeat (first | exact Kp.refl _ _ | apply Kp.drew | apply Kp.alloc))); (focus (exact alloc2_get w _ _)); (focus (exact alloc2_last w _ _)); rintro en w1 ⟨J0, D0, rfl, k0, kk0, hz0, hy0, o0⟩; have x00 : w1.cell? ⟨w.heap.size, 0, none⟩ = some (.slice A0 l.enc.length C0) := heap_cell hz0 0; have x01 : w1.cell? ⟨w.heap.size, 1, none⟩ = some (.slice A1 l.sig.length C1) := heap_cell hz0 1; have x02 : w1.cell? ⟨w.heap.size, 2, none⟩ = some (.slice A2 l.name.length C2) := heap_cell hz0 2; have x03 : w1.cell? ⟨w.heap.size, 3, none⟩ = some (.int .i64 l.src) := heap_cell hz0 3; have x04 : w1.cell? ⟨w.heap.size, 4, none⟩ = some (.slice A3 l.hash.length C3) := heap_cell hz0 4; have x05 : w1.cell? ⟨w.heap.size, 5, none⟩ = some (.slice A4 l.sgn.length C4) := heap_cell hz0 5) | (go_at_call 32; (with_reducible refine (H1.out _ ?_ ?_ ?_).mono ?_); (focus (exact kk0)); (focus (exact hz0)); (focus (exact hy0)); rintro en w2 ⟨J1, D1, rfl, k1, kk1, hz1, hy1, o1⟩; have x10 : w2.cell? ⟨w.heap.size, 0, none⟩ = some (.slice A0 l.enc.length C0) := heap_cell hz1 0; have x11 : w2.cell? ⟨w.heap.size, 1, none⟩ = some (.slice A1 l.sig.length C1) := heap_cell hz1 1; have x12 : w2.cell? ⟨w.heap.size, 2, none⟩ = some (.slice A2 l.name.length C2) := heap_cell hz1 2; have x13 : w2.cell? ⟨w.heap.size, 3, none⟩ = some (.int .i64 l.src) := heap_cell hz1 3; have x14 : w2.cell? ⟨w.heap.size, 4, none⟩ = some (.slice A3 l.hash.length C3) := heap_cell hz1 4; have x15 : w2.cell? ⟨w.heap.size, 5, none⟩ = some (.slice A4 l.sgn.length C4) := heap_cell hz1 5) | (go_at_call 32; (with_reducible refine (H2.out _ ?_ ?_ ?_).mono ?_); (focus (exact kk1)); (focus (exact hz1)); (focus (exact hy1)); rintro en w3 ⟨J2, D2, rfl, k2, kk2, hz2, hy2, o2⟩; have x20 : w3.cell? ⟨w.heap.size, 0, none⟩ = some (.slice A0 l.enc.length C0) := heap_cell hz2 0; have x21 : w3.cell? ⟨w.heap.size, 1, none⟩ = some (.slice A1 l.sig.length C1) := heap_cell hz2 1; have x22 : w3.cell? ⟨w.heap.size, 2, none⟩ = some (.slice A2 l.name.length C2) := heap_cell hz2 2; have x23 : w3.cell? ⟨w.heap.size, 3, none⟩ = some (.int .i64 l.src) := heap_cell hz2 3; have x24 : w3.cell? ⟨w.heap.size, 4, none⟩ = some (.slice A3 l.hash.length C3) := heap_cell hz2 4; have x25 : w3.cell? ⟨w.heap.size, 5, none⟩ = some (.slice A4 l.sgn.length C4) := heap_cell hz2 5) | (go_at_call 32; (with_reducible refine (H3.out _ ?_ ?_ ?_).mono ?_); (focus (exact kk2)); (focus (exact hz2)); (focus (exact hy2)); rintro en w4 ⟨J3, D3, rfl, k3, kk3, hz3, hy3, o3⟩; have x30 : w4.cell? ⟨w.heap.size, 0, none⟩ = some (.slice A0 l.enc.length C0) := heap_cell hz3 0; have x31 : w4.cell? ⟨w.heap.size, 1, none⟩ = some (.slice A1 l.sig.length C1) := heap_cell hz3 1; have x32 : w4.cell? ⟨w.heap.size, 2, none⟩ = some (.slice A2 l.name.length C2) := heap_cell hz3 2; have x33 : w4.cell? ⟨w.heap.size, 3, none⟩ = some (.int .i64 l.src) := heap_cell hz3 3; have x34 : w4.cell? ⟨w.heap.size, 4, none⟩ = some (.slice A3 l.hash.length C3) := heap_cell hz3 4; have x35 : w4.cell? ⟨w.heap.size, 5, none⟩ = some (.slice A4 l.sgn.length C4) := heap_cell hz3 5) | (go_at_call 32; (with_reducible refine (H4.out _ ?_ ?_ ?_).mono ?_); (focus (exact kk3)); (focus (exact hz3)); (focus (exact hy3)); rintro en w5 ⟨J4, D4, rfl, k4, kk4, hz4, hy4, o4⟩; have x40 : w5.cell? ⟨w.heap.size, 0, none⟩ = some (.slice A0 l.enc.length C0) := heap_cell hz4 0; have x41 : w5.cell? ⟨w.heap.size, 1, none⟩ = some (.slice A1 l.sig.length C1) := heap_cell hz4 1; have x42 : w5.cell? ⟨w.heap.size, 2, none⟩ = some (.slice A2 l.name.length C2) := heap_cell hz4 2; have x43 : w5.cell? ⟨w.heap.size, 3, none⟩ = some (.int .i64 l.src) := heap_cell hz4 3; have x44 : w5.cell? ⟨w.heap.size, 4, none⟩ = some (.slice A3 l.hash.length C3) := heap_cell hz4 4; have x45 : w5.cell? ⟨w.heap.size, 5, none⟩ = some (.slice A4 l.sgn.length C4) := heap_cell hz4 5; have t0 : w5.cell? ⟨w.heap.size + 1, 0, none⟩ = some (.slice none 0 0) := heap_cell hy4 0; have g0 := heap_free hy4 0; have t1 : w5.cell? ⟨w.heap.size + 1, 1, none⟩ = some (.slice none 0 0) := heap_cell hy4 1; have g1 := heap_free hy4 1; have t2 : w5.cell? ⟨w.heap.size + 1, 2, none⟩ = some (.slice none 0 0) := heap_cell hy4 2; have g2 := heap_free hy4 2; have t3 : w5.cell? ⟨w.heap.size + 1, 3, none⟩ = some (.int .i64 0) := heap_cell hy4 3; have g3 := heap_free hy4 3; have t4 : w5.cell? ⟨w.heap.size + 1, 4, none⟩ = some (.slice none 0 0) := heap_cell hy4 4; have g4 := heap_free hy4 4; have t5 : w5.cell? ⟨w.heap.size + 1, 5, none⟩ = some (.slice none 0 0) := heap_cell hy4 5; have g5 := heap_free hy4 5) | fail)
  have K7 := set6_kp w5 (w.heap.size + 1) (.slice J0 l.enc.length D0) (.slice J1 l.sig.length D1) (.slice J2 l.name.length D2) (.int .i64 l.src) (.slice J3 l.hash.length D3) (.slice J4 l.sgn.length D4)
  have hT : ∀ b, b ∈ [w.heap.size + 1] → ∃ cs t f, w5.heap[b]? = some (.cells cs t f) ∧ t ≠ 5 := by
    intro b hb
    simp at hb
    subst hb
    exact ⟨_, _, _, hy4, by decide⟩
  go_wp2
  refine bodyPost_ret (v := .agg #[.slice J0 l.enc.length D0, .slice J1 l.sig.length D1, .slice J2 l.name.length D2, .int .i64 l.src, .slice J3 l.hash.length D3, .slice J4 l.sgn.length D4]) (by simp [results, Tryd.results14, go_sem, t0, t1, t2, t3, t4, t5]) rfl
    ⟨_, rfl, ⟨J0, J1, J2, J3, J4, D0, D1, D2, D3, D4, rfl, (((((o0.mono (base' := w.heap.size) (by omega)).kp k1 (by simp)).kp k2 (by simp)).kp k3 (by simp)).kp k4 (by simp)).kpT K7 hT, ((((o1.mono (base' := w.heap.size) (by omega)).kp k2 (by simp)).kp k3 (by simp)).kp k4 (by simp)).kpT K7 hT, (((o2.mono (base' := w.heap.size) (by omega)).kp k3 (by simp)).kp k4 (by simp)).kpT K7 hT, ((o3.mono (base' := w.heap.size) (by omega)).kp k4 (by simp)).kpT K7 hT, (o4.mono (base' := w.heap.size) (by omega)).kpT K7 hT⟩, kk4.old K7 (by intro x hx; simp at hx; omega)⟩
end Go.Proofs.YtgmdcmkokdbeoaaDoor
