/- The leaf of the reference: LeafBytes. -/
import Derived.Test.YtgmdcmkokdbeoaaDoorRefI
set_option linter.unusedVariables false
namespace Go.Proofs.YtgmdcmkokdbeoaaDoor
open Go.RowKit

theorem rbare_any {w : World} {v : Value} {l : LeafD} (h : LeafV w v l) (hl : rightL l) :
    Calls Tryd.prog 66 #[v] w fun e w' => ∃ A C, e = .returned (.slice A (leafB l).length C) ∧ Kp [] w w' ∧ Ob w.heap.size w' (.slice A (leafB l).length C) (leafB l) := by
  obtain ⟨A0, A1, A2, A3, A4, C0, C1, C2, C3, C4, rfl, b0, b1, b2, b3, b4⟩ := h
  obtain ⟨h0, h1, h2, ⟨h3, h4, h5, h6⟩, h7⟩ := hl
  obtain ⟨SN, hSN⟩ : ∃ SN : Nat, l.src = SN := ⟨l.src.toNat, by omega⟩
  unfold leafB
  rw [hSN, Int.toNat_natCast]
  by_cases h3 : (SN : Int) = 3
  · rw [if_pos h3]
    exact rbare_yes l.enc l.sig l.name l.hash _ SN (by omega) (by omega) (by omega) (by omega) (by omega) (by omega) b0 b1 b2 b3
  · rw [if_neg h3, List.append_nil]
    exact rbare_no l.enc l.sig l.name l.hash _ SN (by omega) (by omega) (by omega) (by omega) (by omega) b0 b1 b2

set_option maxRecDepth 100000 in
set_option maxHeartbeats 2000000 in
theorem rleafB_any {w : World} {v : Value} {l : LeafD} (h : LeafV w v l) (hl : rightL l) :
    Calls Tryd.prog 44 #[v] w fun e w' => ∃ A C, e = .returned (.slice A (putLeafB l).length C) ∧ Kp [] w w' ∧ Ob w.heap.size w' (.slice A (putLeafB l).length C) (putLeafB l) := by
  have hh := h
  obtain ⟨A0, A1, A2, A3, A4, C0, C1, C2, C3, C4, rfl, b0, b1, b2, b3, b4⟩ := h
  have HM := Lib.hid (show ∀ x ∈ [l.sgn], x.length ≤ 65536 by intro x hx; simp at hx; subst hx; have := hl.2.2.1; omega)
  have hJ := joinV_le [l.sgn] 64 (by intro x hx; simp at hx; subst hx; have := hl.2.2.1; omega)
  have HL := Lib.hid (show (leafB l).length + (joinV [l.sgn]).length ≤ 70368744177664 by have := leafB_le l hl; simp at hJ; omega)
  have HB := Lib.hid (show ∀ W', Kp [] w W' → W'.heap[w.heap.size]? = some (.cells #[.slice A0 l.enc.length C0, .slice A1 l.sig.length C1, .slice A2 l.name.length C2, .int .i64 l.src, .slice A3 l.hash.length C3, .slice A4 l.sgn.length C4] 24 (0, 0)) → Calls Tryd.prog 66 #[.agg #[.slice A0 l.enc.length C0, .slice A1 l.sig.length C1, .slice A2 l.name.length C2, .int .i64 l.src, .slice A3 l.hash.length C3, .slice A4 l.sgn.length C4]] W' fun e w' => ∃ A C, e = .returned (.slice A (leafB l).length C) ∧ Kp [] W' w' ∧ Kp [] w w' ∧ w'.heap[w.heap.size]? = some (.cells #[.slice A0 l.enc.length C0, .slice A1 l.sig.length C1, .slice A2 l.name.length C2, .int .i64 l.src, .slice A3 l.hash.length C3, .slice A4 l.sgn.length C4] 24 (0, 0)) ∧ Ob (w.heap.size + 1) w' (.slice A (leafB l).length C) (leafB l) from
    fun W' k hz => (rbare_any (hh.kp k) hl).mono fun _ _ ⟨A, C, he, k1, o1⟩ => ⟨A, C, he, k1, k.trans k1, k1.obj hz (by simp), o1.mono (heap_lt hz)⟩)
  have HJ := Lib.hid (show ∀ W' g, Kp [] w W' → W'.heap[w.heap.size]? = some (.cells #[.slice A0 l.enc.length C0, .slice A1 l.sig.length C1, .slice A2 l.name.length C2, .int .i64 l.src, .slice A3 l.hash.length C3, .slice A4 l.sgn.length C4] 24 (0, 0)) → W'.heap[g]? = some (.cells #[.slice A4 l.sgn.length C4] 22 (0, 0)) → Calls Tryd.prog 43 #[.slice (some ⟨g, 0, none⟩) 1 1] W' fun e w' => ∃ A C, e = .returned (.slice A (joinV [l.sgn]).length C) ∧ Kp [] W' w' ∧ Kp [] w w' ∧ w'.heap[w.heap.size]? = some (.cells #[.slice A0 l.enc.length C0, .slice A1 l.sig.length C1, .slice A2 l.name.length C2, .int .i64 l.src, .slice A3 l.hash.length C3, .slice A4 l.sgn.length C4] 24 (0, 0)) ∧ Ob (w.heap.size + 1) w' (.slice A (joinV [l.sgn]).length C) (joinV [l.sgn]) from
    fun W' g k hz hg => (rjoin_any (Bss.blk1 hg (b4.kp k)) HM.out (by simp)).mono fun _ _ ⟨A, C, he, k1, o1⟩ => ⟨A, C, he, k1, k.trans k1, k1.obj hz (by simp), o1.mono (heap_lt hz)⟩)
  clear hh hl b0 b1 b2 b3 b4 hJ
  go_enter Tryd.func44, Tryd.ntmps44
  go_wp2_with fail
  go_region_held3 (fun w' => w'.cell? ⟨w.heap.size, 0, none⟩ = some (.slice A0 l.enc.length C0) ∧ w'.cell? ⟨w.heap.size, 1, none⟩ = some (.slice A1 l.sig.length C1) ∧ w'.cell? ⟨w.heap.size, 2, none⟩ = some (.slice A2 l.name.length C2) ∧ w'.cell? ⟨w.heap.size, 3, none⟩ = some (.int .i64 l.src) ∧ w'.cell? ⟨w.heap.size, 4, none⟩ = some (.slice A3 l.hash.length C3) ∧ w'.cell? ⟨w.heap.size, 5, none⟩ = some (.slice A4 l.sgn.length C4))
    (first | exact ⟨y0, y1, y2, y3, y4, y5⟩ | exact ⟨z0, z1, z2, z3, z4, z5⟩ | exact ⟨x0, x1, x2, x3, x4, x5⟩ | go_keep)
    (first | (go_at_call 66; (with_reducible refine (HB.out _ ?_ ?_).mono ?_); (focus (repeat (first | exact Kp.refl _ _ | apply Kp.drew | apply Kp.alloc))); (focus (first | exact heap_alloc_new w _ | exact alloc2_get w _ _)); rintro en w1 ⟨J1, J2, rfl, k1, kk, hz, o1⟩; have x0 : w1.cell? ⟨w.heap.size, 0, none⟩ = some (.slice A0 l.enc.length C0) := heap_cell hz 0; have x1 : w1.cell? ⟨w.heap.size, 1, none⟩ = some (.slice A1 l.sig.length C1) := heap_cell hz 1; have x2 : w1.cell? ⟨w.heap.size, 2, none⟩ = some (.slice A2 l.name.length C2) := heap_cell hz 2; have x3 : w1.cell? ⟨w.heap.size, 3, none⟩ = some (.int .i64 l.src) := heap_cell hz 3; have x4 : w1.cell? ⟨w.heap.size, 4, none⟩ = some (.slice A3 l.hash.length C3) := heap_cell hz 4; have x5 : w1.cell? ⟨w.heap.size, 5, none⟩ = some (.slice A4 l.sgn.length C4) := heap_cell hz 5) | (go_at_call 43; (with_reducible refine (HJ.out _ _ ?_ ?_ ?_).mono ?_); (focus (first | exact kk | exact kk.alloc _)); (focus (first | exact hz | exact alloc_obj hz _)); (focus (first | exact heap_alloc_new w1 _ | exact k1.obj (alloc2_last w _ _) (by simp))); rintro en w2 ⟨J3, J4, rfl, k2, kk2, hz2, o2⟩; have z0 : w2.cell? ⟨w.heap.size, 0, none⟩ = some (.slice A0 l.enc.length C0) := heap_cell hz2 0; have z1 : w2.cell? ⟨w.heap.size, 1, none⟩ = some (.slice A1 l.sig.length C1) := heap_cell hz2 1; have z2 : w2.cell? ⟨w.heap.size, 2, none⟩ = some (.slice A2 l.name.length C2) := heap_cell hz2 2; have z3 : w2.cell? ⟨w.heap.size, 3, none⟩ = some (.int .i64 l.src) := heap_cell hz2 3; have z4 : w2.cell? ⟨w.heap.size, 4, none⟩ = some (.slice A3 l.hash.length C3) := heap_cell hz2 4; have z5 : w2.cell? ⟨w.heap.size, 5, none⟩ = some (.slice A4 l.sgn.length C4) := heap_cell hz2 5; have hlt2 := heap_lt hz2) | (refine step_app_c (by rfl) _ _ (by rfl) (.slice J1 (leafB l).length J2) (by rfl) (by rfl) (w.heap.size + 1) (leafB l) (joinV [l.sgn]) ?_ o2.bs HL.out ?_ ?_; (focus (first | exact o1.kp k2 (by simp) | exact o1.kp (((Kp.refl [] w1).alloc _).trans k2) (by simp))); (focus (first | exact hlt2 | (simp; omega))); intro Aq Cq w3 o3 hg; have hne := fun hb => Nat.lt_irrefl _ (o1.lt w.heap.size hb).1; have y0 := grown_cell hg w.heap.size 0 (v := .slice A0 l.enc.length C0) z0 hne; have y1 := grown_cell hg w.heap.size 1 (v := .slice A1 l.sig.length C1) z1 hne; have y2 := grown_cell hg w.heap.size 2 (v := .slice A2 l.name.length C2) z2 hne; have y3 := grown_cell hg w.heap.size 3 (v := .int .i64 l.src) z3 hne; have y4 := grown_cell hg w.heap.size 4 (v := .slice A3 l.hash.length C3) z4 hne; have y5 := grown_cell hg w.heap.size 5 (v := .slice A4 l.sgn.length C4) z5 hne) | fail)
  all_goals go_wp2
  all_goals go_ret
  all_goals exact ⟨Aq, Cq, by simp [putLeafB], kk2.grown hg (fun b hb => .inr (Nat.le_of_succ_le (o1.lt b hb).1)), by first | exact o3.mono (Nat.le_succ _)⟩
end Go.Proofs.YtgmdcmkokdbeoaaDoor
