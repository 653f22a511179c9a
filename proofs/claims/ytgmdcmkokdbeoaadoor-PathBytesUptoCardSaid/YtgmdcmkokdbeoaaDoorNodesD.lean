/- The walks of package nodes: PutLeaf. -/
import Derived.Test.YtgmdcmkokdbeoaaDoorNodesC
set_option linter.unusedVariables false
namespace Go.Proofs.YtgmdcmkokdbeoaaDoor
open Go.RowKit

theorem assert_err (w : World) (k : Int) : (Instr.typeAssert (errV k) 20 34 false).run Tryd.prog w = .ok (.int .i64 k) w := by kernel_rfl

theorem caught_panicking (p : Nat) (x : Int) (k : Int) (older : List PanicEntry) (w : World) (hc : w.cell? ⟨p, 0, none⟩ = some (.int .i64 x)) (hz : w.frozen? ⟨p, 0, none⟩ = false) :
    CallsD Tryd.prog 38 #[.pointer (some ⟨p, 0, none⟩)] (.panicking ({ v := errV k, recovered := false } :: older)) w fun e u' w' =>
      e = .returned (.tuple #[]) ∧ u' = .panicking ({ v := errV k, recovered := true } :: older) ∧ w' = w.setCell ⟨p, 0, none⟩ (.int .i64 k) := by
  have ha := assert_err
  unfold errV at ha
  refine callsD_of_wpS Tryd.func38 rfl fun c₀ cs hu => ?_
  apply wpS_seq
  apply wpS_region
  simp [wpOpsS, go_sem, recoverD, hu, Tryd.ntmps38, Exit.thenS]
  apply wpS_seq
  apply wpS_region
  simp [wpOpsS, go_sem, Exit.thenS, errV]
  refine wpS_cond (t := true) (by simp [Act.eval, Array.replicate]) ?_
  simp only [if_true]
  apply wpS_region
  simp [wpOpsS, go_sem, hc, hz, ha, bodyPostS, results, Tryd.results38]

theorem caught_idle (p : Nat) (w : World) :
    CallsD Tryd.prog 38 #[.pointer (some ⟨p, 0, none⟩)] .returning w fun e u' w' => e = .returned (.tuple #[]) ∧ u' = .returning ∧ w' = w := by
  refine callsD_of_wpS Tryd.func38 rfl fun c₀ cs hu => ?_
  apply wpS_seq
  apply wpS_region
  simp [wpOpsS, go_sem, recoverD, hu, Tryd.ntmps38, Exit.thenS]
  apply wpS_seq
  apply wpS_region
  simp [wpOpsS, go_sem, Exit.thenS]
  refine wpS_cond (t := false) (by simp [Act.eval, Array.replicate]) ?_
  simp only [Bool.false_eq_true, if_false]
  refine wpS_of_wp (wp_skip ?_)
  cases c₀
  simp_all [bodyPostS, results, Tryd.results38]

set_option maxRecDepth 100000 in
set_option maxHeartbeats 2000000 in
theorem putLeaf_no {w : World} (A0 A1 A2 A3 A4 : Option Addr) (n0 n1 n2 n3 n4 C0 C1 C2 C3 C4 : Nat) (s : Int)
    (hn : ¬ (n0 = 32 ∧ n1 = 32 ∧ n4 = 64 ∧ (1 ≤ n2 ∧ n2 ≤ 64 ∧ 1 ≤ s ∧ s ≤ 3) ∧ (n3 = 0 ∨ (n3 = 32 ∧ s = 3)))) :
    Calls Tryd.prog 17 #[.agg #[.slice A0 n0 C0, .slice A1 n1 C1, .slice A2 n2 C2, .int .i64 s, .slice A3 n3 C3, .slice A4 n4 C4]] w fun e w' => e = .returned (.tuple #[.slice none 0 0, .int .i64 1]) ∧ Kp [] w w' := by
  have hR := fun w => right_no A0 A1 A2 A3 A4 n0 n1 n2 n3 n4 C0 C1 C2 C3 C4 s w hn
  clear hn
  go_enter_defers Tryd.func17, Tryd.ntmps17
  go_wp2_with (go_at_call 39; refine (hR _).mono ?_; rintro en w1 ⟨rfl, k1⟩)
  refine leaves_cons (f := 38) (args := #[.pointer (some ⟨w.heap.size + 1, 0, none⟩)]) (by simp) (by simp [go_sem]) ?_
  have hc : w1.cell? ⟨w.heap.size + 1, 0, none⟩ = some (.int .i64 0) := k1.get (by simp [go_sem]) (by simp)
  have hf : w1.frozen? ⟨w.heap.size + 1, 0, none⟩ = false := (k1.frozen (by simp) (by simp)).trans (by simp [go_sem])
  have hk : Kp [] w w1 := (((Kp.refl [] w).alloc _).alloc _).trans k1
  refine (caught_panicking (w.heap.size + 1) 0 1 [] w1 hc hf).mono ?_
  rintro e u' w'' ⟨rfl, rfl, rfl⟩
  have hc2 : (w1.setCell ⟨w.heap.size + 1, 0, none⟩ (.int .i64 1)).cell? ⟨w.heap.size + 1, 0, none⟩ = some (.int .i64 1) := World.cell?_setCell_same _ _ _ hc
  have hk2 : Kp [] w (w1.setCell ⟨w.heap.size + 1, 0, none⟩ (.int .i64 1)) := hk.setCell _ _ (by simp)
  simp [Leaves, settle, results, Tryd.results17, go_sem, hc2, hk2]

theorem leafB_le (l : LeafD) (hl : rightL l) : (leafB l).length ≤ 300 := by
  obtain ⟨r1, r2, r3, ⟨r4, r5, r6, r7⟩, r8⟩ := hl
  have hJ3 := joinV_le [l.enc, l.sig, l.name] 64 (by intro x hx; simp at hx; rcases hx with rfl | rfl | rfl <;> omega)
  have hJ1 := joinV_le [l.hash] 32 (by intro x hx; simp at hx; subst hx; omega)
  simp only [List.length_cons, List.length_nil] at hJ3 hJ1
  unfold leafB
  rw [List.length_append, List.length_append, beB_length]
  split
  · omega
  · simp; omega
/-- Bytes are handed back, and no error. -/
def OkPost (w : World) (ys : List UInt8) (e : Ending) (w' : World) : Prop := ∃ A C, e = .returned (.tuple #[.slice A ys.length C, .int .i64 0]) ∧ Kp [] w w' ∧ Ob w.heap.size w' (.slice A ys.length C) ys
def putLeafB (l : LeafD) : List UInt8 := leafB l ++ joinV [l.sgn]

set_option maxRecDepth 100000 in
set_option maxHeartbeats 2000000 in
theorem putLeaf_ok {w : World} (l : LeafD) (hl : rightL l) {A0 A1 A2 A3 A4 : Option Addr} {C0 C1 C2 C3 C4 : Nat}
    (b0 : Bs w (.slice A0 l.enc.length C0) l.enc) (b1 : Bs w (.slice A1 l.sig.length C1) l.sig) (b2 : Bs w (.slice A2 l.name.length C2) l.name) (b3 : Bs w (.slice A3 l.hash.length C3) l.hash) (b4 : Bs w (.slice A4 l.sgn.length C4) l.sgn) :
    Calls Tryd.prog 17 #[.agg #[.slice A0 l.enc.length C0, .slice A1 l.sig.length C1, .slice A2 l.name.length C2, .int .i64 l.src, .slice A3 l.hash.length C3, .slice A4 l.sgn.length C4]] w
      (OkPost w (putLeafB l)) := by
  have hR := fun w => right_ok A0 A1 A2 A3 A4 l.enc.length l.sig.length l.name.length l.hash.length l.sgn.length C0 C1 C2 C3 C4 l.src w hl.1 hl.2.1 hl.2.2.1 ⟨hl.2.2.2.1.1, hl.2.2.2.1.2.1⟩ hl.2.2.2.1.2.2 hl.2.2.2.2
  have HL := Lib.hid hl
  have HB0 := Lib.hid (alloc2_get w (.cells #[.slice A0 l.enc.length C0, .slice A1 l.sig.length C1, .slice A2 l.name.length C2, .int .i64 l.src, .slice A3 l.hash.length C3, .slice A4 l.sgn.length C4] 29) (.cells #[.int .i64 0] 34))
  have K0 := Lib.hid (((Kp.refl [] w).alloc (.cells #[.slice A0 l.enc.length C0, .slice A1 l.sig.length C1, .slice A2 l.name.length C2, .int .i64 l.src, .slice A3 l.hash.length C3, .slice A4 l.sgn.length C4] 29)).alloc (.cells #[.int .i64 0] 34))
  clear hl
  go_enter_defers Tryd.func17, Tryd.ntmps17
  go_wp2_with (first | (go_at_call 39; refine (hR _).mono ?_; rintro en w1 ⟨rfl, k1⟩) | (go_at_call 40; refine (newWriter_any _).mono ?_; rintro en w2 ⟨r, p, rfl, k2, hr, wr2⟩; have HB2 := Lib.hid (((k1.trans k2).block w.heap.size (heap_lt HB0.out) (by simp)).trans HB0.out); have s0 := heap_cell HB2.out 0; have s1 := heap_cell HB2.out 1; have s2 := heap_cell HB2.out 2; have s3 := heap_cell HB2.out 3; have s4 := heap_cell HB2.out 4; have s5 := heap_cell HB2.out 5; simp at s0 s1 s2 s3 s4 s5))
  have kk := (K0.out.trans k1).trans k2
  have hs2 := k2.size
  have hs1 := k1.size
  simp only [World.size_alloc] at hs1
  have hwr : w.heap.size ≠ r := by omega
  have hwr1 : w.heap.size + 1 ≠ r := by omega
  have HE2 := Lib.hid (((k1.trans k2).block (w.heap.size + 1) (by simp) (by simp)).trans (alloc2_last w (.cells #[.slice A0 l.enc.length C0, .slice A1 l.sig.length C1, .slice A2 l.name.length C2, .int .i64 l.src, .slice A3 l.hash.length C3, .slice A4 l.sgn.length C4] 29) (.cells #[.int .i64 0] 34)))
  have hlB : (leafB l).length ≤ 300 := leafB_le l HL.out
  have hlb := b3.lt
  have hg4 := b4.lt
  refine (w_leaf wr2 l HL.out (b0.kp kk) (b1.kp kk) (b2.kp kk) (b3.kp kk) (fun g hg hp => by have := hlb hp g hg; omega) (by simp) (Nat.le_refl _)).mono ?_
  rintro en w3 ⟨rfl, kb, wr3⟩
  clear s0 s1 s2 s3 s4 s5
  have HB3 := Lib.hid (kb.cell HB2.out hwr (.inr (by decide)))
  have HE3 := Lib.hid (kb.cell HE2.out hwr1 (.inr (by decide)))
  have s5 := heap_cell HB3.out 5
  have se := heap_cell HE3.out 0
  have sf := heap_free HE3.out 0
  simp at s5 se
  simp only [List.nil_append] at wr3
  obtain ⟨Aa, Ca, e0, e1, e2, g0, gf, hne, HH1, HH2, ho3, hp3, hr3⟩ := wr3.facts
  have b4w : Bs w3 (.slice A4 l.sgn.length C4) l.sgn := kb.bs (b4.kp kk) (fun g hg hp => by have := hg4 hp g hg; omega)
  have r3 := HL.out.2.2.1
  have hV := w_vector (wr3.kp ((Kp.refl [] w3).alloc (.cells #[.slice A4 l.sgn.length C4] 22) |>.drew)) ((Bss.lit1 w3.heap.size rfl 22 b4w).kp ((Kp.refl [] _).drew))
    (by intro x hx; simp at hx; subst hx; omega) (by simp) (by omega) (by have := kb.size; simp; omega)
  have H5 := Lib.hid hV
  have K3 := Lib.hid ((Kp.refl [] w3).alloc (.cells #[.slice A4 l.sgn.length C4] 22) |>.drew)
  clear hV r3
  go_wp2
  go_region_held3 (fun w' => w'.cell? ⟨r, 1, none⟩ = some (.func (.func 62) #[] #[.pointer (some ⟨p, 0, none⟩)]) ∧ w'.cell? ⟨w.heap.size, 5, none⟩ = some (.slice A4 l.sgn.length C4))
    (first | go_keep)
    (first | (go_at_call 62; refine H5.out.mono ?_; rintro en w4 ⟨rfl, kd, wr4⟩; obtain ⟨Ac, Cc, v0, v1, v2, vg, _, _, HW1, HW2, ho4, _, _⟩ := wr4.facts; have HB4 := Lib.hid (kd.cell (k := w.heap.size) ((K3.out.block w.heap.size (heap_lt HB3.out) (by simp)).trans HB3.out) hwr (.inr (by decide))); have HE4 := Lib.hid (kd.cell (k := w.heap.size + 1) ((K3.out.block _ (heap_lt HE3.out) (by simp)).trans HE3.out) hwr1 (.inr (by decide))); have x5 := heap_cell HB4.out 5; have xe := heap_cell HE4.out 0; have xf := heap_free HE4.out 0; simp at x5 xe))
  clear e0 e1 e2 g0 gf s5 se sf
  go_wp2
  refine leaves_cons (f := 38) (args := #[.pointer (some ⟨w.heap.size + 1, 0, none⟩)]) (by simp) (by simp [go_sem]) ?_
  refine (caught_idle (w.heap.size + 1) _).mono ?_
  rintro e u' w'' ⟨rfl, rfl, rfl⟩
  have hkF : Kp [] w (w4.setCell ⟨w.heap.size + 1, 0, none⟩ (.int .i64 0)) := (((kb.trans ((KpB.of_kp K3.out).trans kd)).kp kk (by omega) (by omega))).setCell _ _ (by simp)
  have hoF : Ob w.heap.size (w4.setCell ⟨w.heap.size + 1, 0, none⟩ (.int .i64 0)) (.slice Ac (leafB l ++ joinV [l.sgn]).length Cc) (leafB l ++ joinV [l.sgn]) :=
    (ho4.mono (by omega)).kp ((Kp.refl [w.heap.size + 1] w4).setCell _ _ (by simp)) (fun b hb' => by have := (ho4.lt b hb').1; simp; omega)
  have hc2 : (w4.setCell ⟨w.heap.size + 1, 0, none⟩ (.int .i64 0)).cell? ⟨w.heap.size + 1, 0, none⟩ = some (.int .i64 0) := World.cell?_setCell_same _ _ _ xe
  simp only [List.length_append] at hoF
  simp [Leaves, settle, results, Tryd.results17, go_sem, hc2]
  exact ⟨Ac, Cc, by rw [putLeafB, List.length_append], hkF, by rw [putLeafB, List.length_append]; exact hoF⟩
end Go.Proofs.YtgmdcmkokdbeoaaDoor
