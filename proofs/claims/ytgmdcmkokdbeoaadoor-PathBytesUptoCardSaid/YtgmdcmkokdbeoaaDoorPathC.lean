/- A path's looks: Path.right. -/
import Derived.Test.YtgmdcmkokdbeoaaDoorPathB
set_option linter.unusedVariables false
namespace Go.Proofs.YtgmdcmkokdbeoaaDoor
open Go.RowKit

/-- A leaf, read. -/
def LeafV (w : World) (v : Value) (l : LeafD) : Prop := ∃ A0 A1 A2 A3 A4 C0 C1 C2 C3 C4, 
  v = .agg #[.slice A0 l.enc.length C0, .slice A1 l.sig.length C1, .slice A2 l.name.length C2, .int .i64 l.src, .slice A3 l.hash.length C3, .slice A4 l.sgn.length C4] ∧
  Bs w (.slice A0 l.enc.length C0) l.enc ∧ Bs w (.slice A1 l.sig.length C1) l.sig ∧ Bs w (.slice A2 l.name.length C2) l.name ∧ Bs w (.slice A3 l.hash.length C3) l.hash ∧ Bs w (.slice A4 l.sgn.length C4) l.sgn
theorem LeafV.kp {w w' : World} {v : Value} {l : LeafD} (h : LeafV w v l) (k : Kp [] w w') : LeafV w' v l := by
  obtain ⟨A0, A1, A2, A3, A4, C0, C1, C2, C3, C4, rfl, o0, o1, o2, o3, o4⟩ := h
  exact ⟨A0, A1, A2, A3, A4, C0, C1, C2, C3, C4, rfl, o0.kp k, o1.kp k, o2.kp k, o3.kp k, o4.kp k⟩
theorem LeafO.read {base : Nat} {w : World} {v : Value} {l : LeafD} (h : LeafO base w v l) : LeafV w v l := by
  obtain ⟨A0, A1, A2, A3, A4, C0, C1, C2, C3, C4, rfl, o0, o1, o2, o3, o4⟩ := h
  exact ⟨A0, A1, A2, A3, A4, C0, C1, C2, C3, C4, rfl, o0.bs, o1.bs, o2.bs, o3.bs, o4.bs⟩

/-- A path, read. -/
def PathV (w : World) (v : Value) (l : LeafD) (ss : List StepD) : Prop := ∃ A0 A1 A2 A3 A4 A5 C0 C1 C2 C3 C4 C5,
  v = .agg #[.slice A0 l.enc.length C0, .slice A1 l.sig.length C1, .slice A2 l.name.length C2, .int .i64 l.src, .slice A3 l.hash.length C3, .slice A4 l.sgn.length C4, .slice A5 ss.length C5] ∧
  LeafV w (.agg #[.slice A0 l.enc.length C0, .slice A1 l.sig.length C1, .slice A2 l.name.length C2, .int .i64 l.src, .slice A3 l.hash.length C3, .slice A4 l.sgn.length C4]) l ∧ StepsV w (.slice A5 ss.length C5) ss
theorem PathV.kp {w w' : World} {v : Value} {l : LeafD} {ss : List StepD} (h : PathV w v l ss) (k : Kp [] w w') : PathV w' v l ss := by
  obtain ⟨A0, A1, A2, A3, A4, A5, C0, C1, C2, C3, C4, C5, rfl, h1, h2⟩ := h
  exact ⟨A0, A1, A2, A3, A4, A5, C0, C1, C2, C3, C4, C5, rfl, h1.kp k, h2.kp k⟩

def rightP (l : LeafD) (ss : List StepD) : Bool := decide (rightL l) && decide (l.src = 3) && decide (ss.length ≤ 6) && !ss.any stepBad

/-- PutLeaf, whatever the leaf. -/
def PutLeafPost (w : World) (l : LeafD) (e : Ending) (w' : World) : Prop :=
  if rightL l then OkPost w (putLeafB l) e w' else e = .returned (.tuple #[.slice none 0 0, .int .i64 1]) ∧ Kp [] w w'
theorem putLeaf_any {w : World} {v : Value} {l : LeafD} (h : LeafV w v l) : Calls Tryd.prog 17 #[v] w (PutLeafPost w l) := by
  obtain ⟨A0, A1, A2, A3, A4, C0, C1, C2, C3, C4, rfl, o0, o1, o2, o3, o4⟩ := h
  unfold PutLeafPost
  by_cases hl : rightL l
  · simp only [if_pos hl]; exact putLeaf_ok l hl o0 o1 o2 o3 o4
  · simp only [if_neg hl]; exact putLeaf_no A0 A1 A2 A3 A4 _ _ _ _ _ C0 C1 C2 C3 C4 l.src hl

set_option maxRecDepth 100000 in
set_option maxHeartbeats 1000000 in
theorem path_right {w : World} {v : Value} {l : LeafD} {ss : List StepD} (h : PathV w v l ss) :
    Calls Tryd.prog 15 #[v] w fun e w' => e = .returned (.bool (rightP l ss)) ∧ Kp [] w w' := by
  obtain ⟨A0, A1, A2, A3, A4, a, C0, C1, C2, C3, C4, c, rfl, hb, h2⟩ := h
  have HZ := Lib.hid (heap_alloc_new w (.cells #[.slice A0 l.enc.length C0, .slice A1 l.sig.length C1, .slice A2 l.name.length C2, .int .i64 l.src, .slice A3 l.hash.length C3, .slice A4 l.sgn.length C4, .slice a ss.length c] 32))
  have K0 := Lib.hid ((Kp.refl [] w).alloc (.cells #[.slice A0 l.enc.length C0, .slice A1 l.sig.length C1, .slice A2 l.name.length C2, .int .i64 l.src, .slice A3 l.hash.length C3, .slice A4 l.sgn.length C4, .slice a ss.length c] 32))
  have hP := putLeaf_any (hb.kp K0.out)
  unfold PutLeafPost at hP
  unfold rightP
  clear hb
  by_cases hl : rightL l
  · simp only [if_pos hl] at hP
    by_cases h3 : l.src = 3
    · rw [h3] at HZ K0 hP
      by_cases h6 : ss.length ≤ 6
      · have t6 : decide ((ss.length : Int) ≤ 6) = true := by simp; omega
        have HS := Lib.hid h2
        clear h2
        generalize l.enc.length = m0, l.sig.length = m1, l.name.length = m2, l.hash.length = m3, l.sgn.length = m4 at *
        go_enter Tryd.func15, Tryd.ntmps15
        go_wp2_with fail
        refine hP.mono ?_
        rintro en w1 ⟨Ap, Cp, rfl, k1, o1⟩
        have HZ1 := Lib.hid (k1.obj HZ.out (by simp))
        have s3 := heap_cell HZ1.out 3
        have s6 := heap_cell HZ1.out 6
        simp at s3 s6
        have hC := contains_steps ((HS.out.kp K0.out).kp k1)
        go_wp2_with (go_at_call 33; refine hC.mono ?_; rintro en w2 ⟨rfl, k2⟩)
        go_ret
        exact ⟨by simp [h6, h3, hl], (K0.out.trans k1).trans k2⟩
      · have t6 : decide ((ss.length : Int) ≤ 6) = false := by simp; omega
        clear h2
        generalize l.enc.length = m0, l.sig.length = m1, l.name.length = m2, l.hash.length = m3, l.sgn.length = m4 at *
        go_enter Tryd.func15, Tryd.ntmps15
        go_wp2_with fail
        refine hP.mono ?_
        rintro en w1 ⟨Ap, Cp, rfl, k1, o1⟩
        have HZ1 := Lib.hid (k1.obj HZ.out (by simp))
        have s3 := heap_cell HZ1.out 3
        have s6 := heap_cell HZ1.out 6
        simp at s3 s6
        go_wp2
        go_ret
        exact ⟨by simp [h6], (K0.out.trans k1)⟩
    · have t3 : (l.src == 3) = false := by simpa using h3
      clear h2
      generalize l.enc.length = m0, l.sig.length = m1, l.name.length = m2, l.hash.length = m3, l.sgn.length = m4 at *
      have e3 : decide (l.src = 3) = false := by simpa using h3
      rw [e3]
      generalize l.src = z at *
      go_enter Tryd.func15, Tryd.ntmps15
      go_wp2_with fail
      refine hP.mono ?_
      rintro en w1 ⟨Ap, Cp, rfl, k1, o1⟩
      have HZ1 := Lib.hid (k1.obj HZ.out (by simp))
      have s3 := heap_cell HZ1.out 3
      have s6 := heap_cell HZ1.out 6
      simp at s3 s6
      go_wp2
      go_ret
      exact ⟨by simp, (K0.out.trans k1)⟩
  · simp only [if_neg hl] at hP
    clear h2
    have el : decide (rightL l) = false := by simpa using hl
    rw [el]
    clear hl el
    generalize l.enc.length = m0, l.sig.length = m1, l.name.length = m2, l.hash.length = m3, l.sgn.length = m4, l.src = z at *
    go_enter Tryd.func15, Tryd.ntmps15
    go_wp2_with fail
    refine hP.mono ?_
    rintro en w1 ⟨rfl, k1⟩
    have HZ1 := Lib.hid (k1.obj HZ.out (by simp))
    have s3 := heap_cell HZ1.out 3
    have s6 := heap_cell HZ1.out 6
    simp at s3 s6
    go_wp2
    go_ret
    exact ⟨by simp, (K0.out.trans k1)⟩
end Go.Proofs.YtgmdcmkokdbeoaaDoor
