/- The law, whole. -/
import Derived.Test.YtgmdcmkokdbeoaaDoorLawD
import Derived.Test.YtgmdcmkokdbeoaaDoorLawE
import Derived.Test.YtgmdcmkokdbeoaaDoorLawF
import Derived.Test.YtgmdcmkokdbeoaaDoorPureB
set_option linter.unusedVariables false
set_option linter.unusedSimpArgs false
namespace Go.Proofs.YtgmdcmkokdbeoaaDoor
open Go.RowKit

/-- Bytes and a number are handed back. -/
def PutOne (w : World) (ys : List UInt8) (k : Int) (e : Ending) (w' : World) : Prop := ∃ A C, e = .returned (.tuple #[.slice A ys.length C, .int .i64 k]) ∧ Kp [] w w' ∧ Bs w' (.slice A ys.length C) ys
theorem PutPathPost.one {w : World} {l : LeafD} {ss : List StepD} {e : Ending} {w' : World} (h : PutPathPost w l ss e w') : PutOne w (if rightP l ss then pathB l ss else []) (if rightP l ss then 0 else 1) e w' := by
  unfold PutPathPost at h
  cases hr : rightP l ss
  · rw [hr] at h
    simp only [Bool.false_eq_true, if_false] at h ⊢
    exact ⟨none, 0, h.1, h.2, Bs.nil _⟩
  · rw [hr] at h
    simp only [if_true] at h ⊢
    obtain ⟨A, C, he, k, o⟩ := h
    exact ⟨A, C, he, k, o.bs⟩
theorem putOne {w : World} {v : Value} {l : LeafD} {ss : List StepD} (h : PathV w v l ss) : Calls Tryd.prog 6 #[v] w (PutOne w (if rightP l ss then pathB l ss else []) (if rightP l ss then 0 else 1)) :=
  (putPath_any h).mono fun _ _ h => h.one
theorem rputOne {w : World} {v : Value} {l : LeafD} {ss : List StepD} (h : PathV w v l ss) : Calls Tryd.prog 7 #[v] w (PutOne w (if rightP l ss then pathB l ss else []) (if rightP l ss then 0 else 1)) :=
  (rputPath_any h).mono fun _ _ h => h.one
/-- A path and a number are handed back. -/
def GetOne (w : World) (l : LeafD) (ss : List StepD) (k : Int) (e : Ending) (w' : World) : Prop := ∃ A0 A1 A2 A3 A4 A5 C0 C1 C2 C3 C4 C5,
  e = .returned (.tuple #[.agg #[.slice A0 l.enc.length C0, .slice A1 l.sig.length C1, .slice A2 l.name.length C2, .int .i64 l.src, .slice A3 l.hash.length C3, .slice A4 l.sgn.length C4, .slice A5 ss.length C5], .int .i64 k]) ∧
  PathV w' (.agg #[.slice A0 l.enc.length C0, .slice A1 l.sig.length C1, .slice A2 l.name.length C2, .int .i64 l.src, .slice A3 l.hash.length C3, .slice A4 l.sgn.length C4, .slice A5 ss.length C5]) l ss ∧ Kp [] w w'
theorem getOne {w : World} {v : Value} {bs : List UInt8} (h : Bs w v bs) (hl : bs.length ≤ 1099511627776) : Calls Tryd.prog 8 #[v] w (GetOne w (getPathL bs) (getPathS bs) (getPathE bs)) :=
  (getPath_any h hl).mono fun _ _ ⟨v, he, hp, k⟩ => by
    have hr := hp.read
    obtain ⟨A0, A1, A2, A3, A4, A5, C0, C1, C2, C3, C4, C5, rfl, -⟩ := hp
    exact ⟨A0, A1, A2, A3, A4, A5, C0, C1, C2, C3, C4, C5, he, hr, k⟩
theorem rgetOne {w : World} {v : Value} {bs : List UInt8} (h : Bs w v bs) (hl : bs.length ≤ 1099511627776) : Calls Tryd.prog 9 #[v] w (GetOne w (getPathL bs) (getPathS bs) (getPathE bs)) :=
  (rgetPath_any h hl).mono fun _ _ ⟨v, he, hp, k⟩ => by
    obtain ⟨e1, e2, e3⟩ := path_same bs
    rw [e1, e2, e3]
    have hr := hp.read
    obtain ⟨A0, A1, A2, A3, A4, A5, C0, C1, C2, C3, C4, C5, rfl, -⟩ := hp
    exact ⟨A0, A1, A2, A3, A4, A5, C0, C1, C2, C3, C4, C5, he, hr, k⟩

theorem LentV.bs' {w : World} {v : Value} {xs : List UInt8} (h : LentV w v xs) : Bs w v xs := by
  obtain ⟨A, C, n, rfl, hn, h1, h2⟩ := h
  exact h1

set_option maxRecDepth 100000 in
set_option maxHeartbeats 8000000 in
theorem pb_t0 {w : World} {vb : Value} {pA0 pA1 pA2 pA3 pA4 pA5 : Option Addr} {pC0 pC1 pC2 pC3 pC4 pC5 : Nat} {l : LeafD} {ss : List StepD} {bs : List UInt8} (hp : PathV w (.agg #[.slice pA0 l.enc.length pC0, .slice pA1 l.sig.length pC1, .slice pA2 l.name.length pC2, .int .i64 l.src, .slice pA3 l.hash.length pC3, .slice pA4 l.sgn.length pC4, .slice pA5 ss.length pC5]) l ss) (hb : Bs w vb bs) (hm : PathSmall l ss) (hl : bs.length ≤ 2097152) (hr : rightP l ss = true) (he : getPathE bs = 0) :
    Calls Tryd.prog 3 #[.agg #[.slice pA0 l.enc.length pC0, .slice pA1 l.sig.length pC1, .slice pA2 l.name.length pC2, .int .i64 l.src, .slice pA3 l.hash.length pC3, .slice pA4 l.sgn.length pC4, .slice pA5 ss.length pC5], vb] w fun e w' => e = .returned (.bool true) ∧ Kp [] w w' := by
  have HP := Lib.hid hp
  have HB := Lib.hid hb
  have HM := Lib.hid hm
  have HBl := Lib.hid (show bs.length ≤ 35184372088832 by omega)
  have HBL := Lib.hid (show bs.length ≤ 1099511627776 by omega)
  have HR := Lib.hid hr
  have HE := Lib.hid he
  obtain ⟨ys, hys⟩ : ∃ ys, ys = pathB l ss := ⟨_, rfl⟩
  have HYs := Lib.hid hys
  obtain ⟨q1, q2, q3⟩ := path_back hr
  have HK1 := Lib.hid q1
  have HK2 := Lib.hid q2
  have HK3 := Lib.hid q3
  have HYl := Lib.hid (show ys.length ≤ 1099511627776 by
    obtain ⟨a1, a2, a3⟩ := rightP_parts hr
    have h1 := putLeafB_le a1
    have h2 := stepsB_le (List.any_eq_false.2 (fun x hx => by rw [a3 x hx]; simp)) a2
    have h3 := joinV2_le (putLeafB l) (stepsB ss)
    rw [hys]
    unfold pathB
    omega)
  clear q1 q2 q3
  obtain ⟨q1, q2⟩ := path_forth he
  have HF1 := Lib.hid q1
  have HF2 := Lib.hid q2
  clear q1 q2
  clear hp hb hm hl hr he hys
  go_enter Tryd.func3, Tryd.ntmps3
  have KA1 := Lib.hid ((Kp.refl [] w).alloc (.cells #[.slice pA0 l.enc.length pC0, .slice pA1 l.sig.length pC1, .slice pA2 l.name.length pC2, .int .i64 l.src, .slice pA3 l.hash.length pC3, .slice pA4 l.sgn.length pC4, .slice pA5 ss.length pC5] 27))
  have K2 := Lib.hid (KA1.out)
  have Vp2 := Lib.hid (HP.out.kp KA1.out)
  have Yb2 := Lib.hid (HB.out.kp KA1.out)
  have Np := Lib.hid (heap_alloc_new w (.cells #[.slice pA0 l.enc.length pC0, .slice pA1 l.sig.length pC1, .slice pA2 l.name.length pC2, .int .i64 l.src, .slice pA3 l.hash.length pC3, .slice pA4 l.sgn.length pC4, .slice pA5 ss.length pC5] 27))
  go_wp2_with fail
  refine (lent_any Yb2.out HBl.out).mono ?_
  rintro en w1 ⟨tA, tC, rfl, k1, lv1⟩
  have K3 := Lib.hid (K2.out.trans k1)
  have Xp3 := Lib.hid (Kp.obj k1 Np.out (by simp))
  have Vp3 := Lib.hid (Vp2.out.kp k1)
  have Yb3 := Lib.hid (Yb2.out.kp k1)
  have HT := Lib.hid lv1
  clear k1 lv1
  have cp0 : w1.cell? ⟨w.heap.size, 0, none⟩ = some (.slice pA0 l.enc.length pC0) := heap_cell Xp3.out 0
  have cp1 : w1.cell? ⟨w.heap.size, 1, none⟩ = some (.slice pA1 l.sig.length pC1) := heap_cell Xp3.out 1
  have cp2 : w1.cell? ⟨w.heap.size, 2, none⟩ = some (.slice pA2 l.name.length pC2) := heap_cell Xp3.out 2
  have cp3 : w1.cell? ⟨w.heap.size, 3, none⟩ = some (.int .i64 l.src) := heap_cell Xp3.out 3
  have cp4 : w1.cell? ⟨w.heap.size, 4, none⟩ = some (.slice pA3 l.hash.length pC3) := heap_cell Xp3.out 4
  have cp5 : w1.cell? ⟨w.heap.size, 5, none⟩ = some (.slice pA4 l.sgn.length pC4) := heap_cell Xp3.out 5
  have cp6 : w1.cell? ⟨w.heap.size, 6, none⟩ = some (.slice pA5 ss.length pC5) := heap_cell Xp3.out 6
  go_wp2_with fail
  refine (lawPath_any Vp3.out HM.out).mono ?_
  rintro en w2 ⟨u, rfl, hu, k2⟩
  have HXu := Lib.hid hu.read
  obtain ⟨xA0, xA1, xA2, xA3, xA4, xA5, xC0, xC1, xC2, xC3, xC4, xC5, rfl, -⟩ := hu
  simp only [pathCells] at HXu
  clear cp0 cp1 cp2 cp3 cp4 cp5 cp6
  have K4 := Lib.hid (K3.out.trans k2)
  have Xp4 := Lib.hid (Kp.obj k2 Xp3.out (by simp))
  have Vp4 := Lib.hid (Vp3.out.kp k2)
  have Yb4 := Lib.hid (Yb3.out.kp k2)
  have Yt4 := Lib.hid (HT.out.kp k2)
  clear k2
  have KA5 := Lib.hid ((Kp.refl [] w2).alloc (.cells #[.slice xA0 l.enc.length xC0, .slice xA1 l.sig.length xC1, .slice xA2 l.name.length xC2, .int .i64 l.src, .slice xA3 l.hash.length xC3, .slice xA4 l.sgn.length xC4, .slice xA5 ss.length xC5] 32))
  have K6 := Lib.hid (K4.out.trans KA5.out)
  have Xp6 := Lib.hid (Kp.obj KA5.out Xp4.out (by simp))
  have Vp6 := Lib.hid (Vp4.out.kp KA5.out)
  have Vx6 := Lib.hid (HXu.out.kp KA5.out)
  have Yb6 := Lib.hid (Yb4.out.kp KA5.out)
  have Yt6 := Lib.hid (Yt4.out.kp KA5.out)
  have Nx := Lib.hid (heap_alloc_new w2 (.cells #[.slice xA0 l.enc.length xC0, .slice xA1 l.sig.length xC1, .slice xA2 l.name.length xC2, .int .i64 l.src, .slice xA3 l.hash.length xC3, .slice xA4 l.sgn.length xC4, .slice xA5 ss.length xC5] 32))
  unfold pathCells
  go_wp2_with fail
  have hq3 := putOne Vx6.out
  rw [HR.out] at hq3
  simp only [if_true] at hq3
  rw [← HYs.out] at hq3
  refine (hq3).mono ?_
  rintro en w3 ⟨aA, aC, rfl, k3, ba⟩
  have K7 := Lib.hid (K6.out.trans k3)
  have Xp7 := Lib.hid (Kp.obj k3 Xp6.out (by simp))
  have Xx7 := Lib.hid (Kp.obj k3 Nx.out (by simp))
  have Vp7 := Lib.hid (Vp6.out.kp k3)
  have Vx7 := Lib.hid (Vx6.out.kp k3)
  have Yb7 := Lib.hid (Yb6.out.kp k3)
  have Yt7 := Lib.hid (Yt6.out.kp k3)
  have HBa := Lib.hid ba
  clear k3 ba hq3
  have cp0 : w3.cell? ⟨w.heap.size, 0, none⟩ = some (.slice pA0 l.enc.length pC0) := heap_cell Xp7.out 0
  have cp1 : w3.cell? ⟨w.heap.size, 1, none⟩ = some (.slice pA1 l.sig.length pC1) := heap_cell Xp7.out 1
  have cp2 : w3.cell? ⟨w.heap.size, 2, none⟩ = some (.slice pA2 l.name.length pC2) := heap_cell Xp7.out 2
  have cp3 : w3.cell? ⟨w.heap.size, 3, none⟩ = some (.int .i64 l.src) := heap_cell Xp7.out 3
  have cp4 : w3.cell? ⟨w.heap.size, 4, none⟩ = some (.slice pA3 l.hash.length pC3) := heap_cell Xp7.out 4
  have cp5 : w3.cell? ⟨w.heap.size, 5, none⟩ = some (.slice pA4 l.sgn.length pC4) := heap_cell Xp7.out 5
  have cp6 : w3.cell? ⟨w.heap.size, 6, none⟩ = some (.slice pA5 ss.length pC5) := heap_cell Xp7.out 6
  go_wp2_with fail
  have hq4 := rputOne Vp7.out
  rw [HR.out] at hq4
  simp only [if_true] at hq4
  rw [← HYs.out] at hq4
  refine (hq4).mono ?_
  rintro en w4 ⟨cA, cC, rfl, k4, bc⟩
  clear cp0 cp1 cp2 cp3 cp4 cp5 cp6
  have K8 := Lib.hid (K7.out.trans k4)
  have Xp8 := Lib.hid (Kp.obj k4 Xp7.out (by simp))
  have Xx8 := Lib.hid (Kp.obj k4 Xx7.out (by simp))
  have Vp8 := Lib.hid (Vp7.out.kp k4)
  have Vx8 := Lib.hid (Vx7.out.kp k4)
  have Yb8 := Lib.hid (Yb7.out.kp k4)
  have Yt8 := Lib.hid (Yt7.out.kp k4)
  have Ya8 := Lib.hid (HBa.out.kp k4)
  have HBc := Lib.hid bc
  clear k4 bc hq4
  go_wp2_with fail
  have hq5 := getOne Yt8.out.bs' HBL.out
  rw [HE.out] at hq5
  refine (hq5).mono ?_
  rintro en w5 ⟨dA0, dA1, dA2, dA3, dA4, dA5, dC0, dC1, dC2, dC3, dC4, dC5, rfl, pd, k5⟩
  have K9 := Lib.hid (K8.out.trans k5)
  have Xp9 := Lib.hid (Kp.obj k5 Xp8.out (by simp))
  have Xx9 := Lib.hid (Kp.obj k5 Xx8.out (by simp))
  have Vp9 := Lib.hid (Vp8.out.kp k5)
  have Vx9 := Lib.hid (Vx8.out.kp k5)
  have Yb9 := Lib.hid (Yb8.out.kp k5)
  have Yt9 := Lib.hid (Yt8.out.kp k5)
  have Ya9 := Lib.hid (Ya8.out.kp k5)
  have Yc9 := Lib.hid (HBc.out.kp k5)
  have HPd := Lib.hid pd
  clear k5 pd hq5
  have KA10 := Lib.hid ((Kp.refl [] w5).alloc (.cells #[.slice dA0 (getPathL bs).enc.length dC0, .slice dA1 (getPathL bs).sig.length dC1, .slice dA2 (getPathL bs).name.length dC2, .int .i64 (getPathL bs).src, .slice dA3 (getPathL bs).hash.length dC3, .slice dA4 (getPathL bs).sgn.length dC4, .slice dA5 (getPathS bs).length dC5] 32))
  have K11 := Lib.hid (K9.out.trans KA10.out)
  have Xp11 := Lib.hid (Kp.obj KA10.out Xp9.out (by simp))
  have Xx11 := Lib.hid (Kp.obj KA10.out Xx9.out (by simp))
  have Vp11 := Lib.hid (Vp9.out.kp KA10.out)
  have Vx11 := Lib.hid (Vx9.out.kp KA10.out)
  have Vd11 := Lib.hid (HPd.out.kp KA10.out)
  have Yb11 := Lib.hid (Yb9.out.kp KA10.out)
  have Yt11 := Lib.hid (Yt9.out.kp KA10.out)
  have Ya11 := Lib.hid (Ya9.out.kp KA10.out)
  have Yc11 := Lib.hid (Yc9.out.kp KA10.out)
  have Nd := Lib.hid (heap_alloc_new w5 (.cells #[.slice dA0 (getPathL bs).enc.length dC0, .slice dA1 (getPathL bs).sig.length dC1, .slice dA2 (getPathL bs).name.length dC2, .int .i64 (getPathL bs).src, .slice dA3 (getPathL bs).hash.length dC3, .slice dA4 (getPathL bs).sgn.length dC4, .slice dA5 (getPathS bs).length dC5] 32))
  go_wp2_with fail
  have hq6 := rgetOne Yb11.out HBL.out
  rw [HE.out] at hq6
  refine (hq6).mono ?_
  rintro en w6 ⟨hA0, hA1, hA2, hA3, hA4, hA5, hC0, hC1, hC2, hC3, hC4, hC5, rfl, ph, k6⟩
  have K12 := Lib.hid (K11.out.trans k6)
  have Xp12 := Lib.hid (Kp.obj k6 Xp11.out (by simp))
  have Xx12 := Lib.hid (Kp.obj k6 Xx11.out (by simp))
  have Xd12 := Lib.hid (Kp.obj k6 Nd.out (by simp))
  have Vp12 := Lib.hid (Vp11.out.kp k6)
  have Vx12 := Lib.hid (Vx11.out.kp k6)
  have Vd12 := Lib.hid (Vd11.out.kp k6)
  have Yb12 := Lib.hid (Yb11.out.kp k6)
  have Yt12 := Lib.hid (Yt11.out.kp k6)
  have Ya12 := Lib.hid (Ya11.out.kp k6)
  have Yc12 := Lib.hid (Yc11.out.kp k6)
  have HPh := Lib.hid ph
  clear k6 ph hq6
  have KA13 := Lib.hid ((Kp.refl [] w6).alloc (.cells #[.slice hA0 (getPathL bs).enc.length hC0, .slice hA1 (getPathL bs).sig.length hC1, .slice hA2 (getPathL bs).name.length hC2, .int .i64 (getPathL bs).src, .slice hA3 (getPathL bs).hash.length hC3, .slice hA4 (getPathL bs).sgn.length hC4, .slice hA5 (getPathS bs).length hC5] 27))
  have K14 := Lib.hid (K12.out.trans KA13.out)
  have Xp14 := Lib.hid (Kp.obj KA13.out Xp12.out (by simp))
  have Xx14 := Lib.hid (Kp.obj KA13.out Xx12.out (by simp))
  have Xd14 := Lib.hid (Kp.obj KA13.out Xd12.out (by simp))
  have Vp14 := Lib.hid (Vp12.out.kp KA13.out)
  have Vx14 := Lib.hid (Vx12.out.kp KA13.out)
  have Vd14 := Lib.hid (Vd12.out.kp KA13.out)
  have Vh14 := Lib.hid (HPh.out.kp KA13.out)
  have Yb14 := Lib.hid (Yb12.out.kp KA13.out)
  have Yt14 := Lib.hid (Yt12.out.kp KA13.out)
  have Ya14 := Lib.hid (Ya12.out.kp KA13.out)
  have Yc14 := Lib.hid (Yc12.out.kp KA13.out)
  have Nh := Lib.hid (heap_alloc_new w6 (.cells #[.slice hA0 (getPathL bs).enc.length hC0, .slice hA1 (getPathL bs).sig.length hC1, .slice hA2 (getPathL bs).name.length hC2, .int .i64 (getPathL bs).src, .slice hA3 (getPathL bs).hash.length hC3, .slice hA4 (getPathL bs).sgn.length hC4, .slice hA5 (getPathS bs).length hC5] 27))
  have cv1 := bs_string Ya14.out
  have cv2 := bs_string Yc14.out
  go_wp2_with fail
  refine (num_any _ _).mono ?_
  rintro en w' ⟨rfl, rfl⟩
  clear cv1 cv2
  have cd0 : (w6.alloc (.cells #[.slice hA0 (getPathL bs).enc.length hC0, .slice hA1 (getPathL bs).sig.length hC1, .slice hA2 (getPathL bs).name.length hC2, .int .i64 (getPathL bs).src, .slice hA3 (getPathL bs).hash.length hC3, .slice hA4 (getPathL bs).sgn.length hC4, .slice hA5 (getPathS bs).length hC5] 27)).cell? ⟨w5.heap.size, 0, none⟩ = some (.slice dA0 (getPathL bs).enc.length dC0) := heap_cell Xd14.out 0
  have cd1 : (w6.alloc (.cells #[.slice hA0 (getPathL bs).enc.length hC0, .slice hA1 (getPathL bs).sig.length hC1, .slice hA2 (getPathL bs).name.length hC2, .int .i64 (getPathL bs).src, .slice hA3 (getPathL bs).hash.length hC3, .slice hA4 (getPathL bs).sgn.length hC4, .slice hA5 (getPathS bs).length hC5] 27)).cell? ⟨w5.heap.size, 1, none⟩ = some (.slice dA1 (getPathL bs).sig.length dC1) := heap_cell Xd14.out 1
  have cd2 : (w6.alloc (.cells #[.slice hA0 (getPathL bs).enc.length hC0, .slice hA1 (getPathL bs).sig.length hC1, .slice hA2 (getPathL bs).name.length hC2, .int .i64 (getPathL bs).src, .slice hA3 (getPathL bs).hash.length hC3, .slice hA4 (getPathL bs).sgn.length hC4, .slice hA5 (getPathS bs).length hC5] 27)).cell? ⟨w5.heap.size, 2, none⟩ = some (.slice dA2 (getPathL bs).name.length dC2) := heap_cell Xd14.out 2
  have cd3 : (w6.alloc (.cells #[.slice hA0 (getPathL bs).enc.length hC0, .slice hA1 (getPathL bs).sig.length hC1, .slice hA2 (getPathL bs).name.length hC2, .int .i64 (getPathL bs).src, .slice hA3 (getPathL bs).hash.length hC3, .slice hA4 (getPathL bs).sgn.length hC4, .slice hA5 (getPathS bs).length hC5] 27)).cell? ⟨w5.heap.size, 3, none⟩ = some (.int .i64 (getPathL bs).src) := heap_cell Xd14.out 3
  have cd4 : (w6.alloc (.cells #[.slice hA0 (getPathL bs).enc.length hC0, .slice hA1 (getPathL bs).sig.length hC1, .slice hA2 (getPathL bs).name.length hC2, .int .i64 (getPathL bs).src, .slice hA3 (getPathL bs).hash.length hC3, .slice hA4 (getPathL bs).sgn.length hC4, .slice hA5 (getPathS bs).length hC5] 27)).cell? ⟨w5.heap.size, 4, none⟩ = some (.slice dA3 (getPathL bs).hash.length dC3) := heap_cell Xd14.out 4
  have cd5 : (w6.alloc (.cells #[.slice hA0 (getPathL bs).enc.length hC0, .slice hA1 (getPathL bs).sig.length hC1, .slice hA2 (getPathL bs).name.length hC2, .int .i64 (getPathL bs).src, .slice hA3 (getPathL bs).hash.length hC3, .slice hA4 (getPathL bs).sgn.length hC4, .slice hA5 (getPathS bs).length hC5] 27)).cell? ⟨w5.heap.size, 5, none⟩ = some (.slice dA4 (getPathL bs).sgn.length dC4) := heap_cell Xd14.out 5
  have cd6 : (w6.alloc (.cells #[.slice hA0 (getPathL bs).enc.length hC0, .slice hA1 (getPathL bs).sig.length hC1, .slice hA2 (getPathL bs).name.length hC2, .int .i64 (getPathL bs).src, .slice hA3 (getPathL bs).hash.length hC3, .slice hA4 (getPathL bs).sgn.length hC4, .slice hA5 (getPathS bs).length hC5] 27)).cell? ⟨w5.heap.size, 6, none⟩ = some (.slice dA5 (getPathS bs).length dC5) := heap_cell Xd14.out 6
  have ch0 : (w6.alloc (.cells #[.slice hA0 (getPathL bs).enc.length hC0, .slice hA1 (getPathL bs).sig.length hC1, .slice hA2 (getPathL bs).name.length hC2, .int .i64 (getPathL bs).src, .slice hA3 (getPathL bs).hash.length hC3, .slice hA4 (getPathL bs).sgn.length hC4, .slice hA5 (getPathS bs).length hC5] 27)).cell? ⟨w6.heap.size, 0, none⟩ = some (.slice hA0 (getPathL bs).enc.length hC0) := heap_cell Nh.out 0
  have ch1 : (w6.alloc (.cells #[.slice hA0 (getPathL bs).enc.length hC0, .slice hA1 (getPathL bs).sig.length hC1, .slice hA2 (getPathL bs).name.length hC2, .int .i64 (getPathL bs).src, .slice hA3 (getPathL bs).hash.length hC3, .slice hA4 (getPathL bs).sgn.length hC4, .slice hA5 (getPathS bs).length hC5] 27)).cell? ⟨w6.heap.size, 1, none⟩ = some (.slice hA1 (getPathL bs).sig.length hC1) := heap_cell Nh.out 1
  have ch2 : (w6.alloc (.cells #[.slice hA0 (getPathL bs).enc.length hC0, .slice hA1 (getPathL bs).sig.length hC1, .slice hA2 (getPathL bs).name.length hC2, .int .i64 (getPathL bs).src, .slice hA3 (getPathL bs).hash.length hC3, .slice hA4 (getPathL bs).sgn.length hC4, .slice hA5 (getPathS bs).length hC5] 27)).cell? ⟨w6.heap.size, 2, none⟩ = some (.slice hA2 (getPathL bs).name.length hC2) := heap_cell Nh.out 2
  have ch3 : (w6.alloc (.cells #[.slice hA0 (getPathL bs).enc.length hC0, .slice hA1 (getPathL bs).sig.length hC1, .slice hA2 (getPathL bs).name.length hC2, .int .i64 (getPathL bs).src, .slice hA3 (getPathL bs).hash.length hC3, .slice hA4 (getPathL bs).sgn.length hC4, .slice hA5 (getPathS bs).length hC5] 27)).cell? ⟨w6.heap.size, 3, none⟩ = some (.int .i64 (getPathL bs).src) := heap_cell Nh.out 3
  have ch4 : (w6.alloc (.cells #[.slice hA0 (getPathL bs).enc.length hC0, .slice hA1 (getPathL bs).sig.length hC1, .slice hA2 (getPathL bs).name.length hC2, .int .i64 (getPathL bs).src, .slice hA3 (getPathL bs).hash.length hC3, .slice hA4 (getPathL bs).sgn.length hC4, .slice hA5 (getPathS bs).length hC5] 27)).cell? ⟨w6.heap.size, 4, none⟩ = some (.slice hA3 (getPathL bs).hash.length hC3) := heap_cell Nh.out 4
  have ch5 : (w6.alloc (.cells #[.slice hA0 (getPathL bs).enc.length hC0, .slice hA1 (getPathL bs).sig.length hC1, .slice hA2 (getPathL bs).name.length hC2, .int .i64 (getPathL bs).src, .slice hA3 (getPathL bs).hash.length hC3, .slice hA4 (getPathL bs).sgn.length hC4, .slice hA5 (getPathS bs).length hC5] 27)).cell? ⟨w6.heap.size, 5, none⟩ = some (.slice hA4 (getPathL bs).sgn.length hC4) := heap_cell Nh.out 5
  have ch6 : (w6.alloc (.cells #[.slice hA0 (getPathL bs).enc.length hC0, .slice hA1 (getPathL bs).sig.length hC1, .slice hA2 (getPathL bs).name.length hC2, .int .i64 (getPathL bs).src, .slice hA3 (getPathL bs).hash.length hC3, .slice hA4 (getPathL bs).sgn.length hC4, .slice hA5 (getPathS bs).length hC5] 27)).cell? ⟨w6.heap.size, 6, none⟩ = some (.slice hA5 (getPathS bs).length hC5) := heap_cell Nh.out 6
  go_wp2_with fail
  refine (samePath_any Vd14.out Vh14.out).mono ?_
  rintro en w8 ⟨rfl, k8⟩
  clear cd0 cd1 cd2 cd3 cd4 cd5 cd6
  clear ch0 ch1 ch2 ch3 ch4 ch5 ch6
  have K15 := Lib.hid (K14.out.trans k8)
  have Xp15 := Lib.hid (Kp.obj k8 Xp14.out (by simp))
  have Xx15 := Lib.hid (Kp.obj k8 Xx14.out (by simp))
  have Xd15 := Lib.hid (Kp.obj k8 Xd14.out (by simp))
  have Xh15 := Lib.hid (Kp.obj k8 Nh.out (by simp))
  have Vp15 := Lib.hid (Vp14.out.kp k8)
  have Vx15 := Lib.hid (Vx14.out.kp k8)
  have Vd15 := Lib.hid (Vd14.out.kp k8)
  have Vh15 := Lib.hid (Vh14.out.kp k8)
  have Yb15 := Lib.hid (Yb14.out.kp k8)
  have Yt15 := Lib.hid (Yt14.out.kp k8)
  have Ya15 := Lib.hid (Ya14.out.kp k8)
  have Yc15 := Lib.hid (Yc14.out.kp k8)
  clear k8
  go_wp2_with fail
  refine (num_any _ _).mono ?_
  rintro en w' ⟨rfl, rfl⟩
  have cx0 : w8.cell? ⟨w2.heap.size, 0, none⟩ = some (.slice xA0 l.enc.length xC0) := heap_cell Xx15.out 0
  have cx1 : w8.cell? ⟨w2.heap.size, 1, none⟩ = some (.slice xA1 l.sig.length xC1) := heap_cell Xx15.out 1
  have cx2 : w8.cell? ⟨w2.heap.size, 2, none⟩ = some (.slice xA2 l.name.length xC2) := heap_cell Xx15.out 2
  have cx3 : w8.cell? ⟨w2.heap.size, 3, none⟩ = some (.int .i64 l.src) := heap_cell Xx15.out 3
  have cx4 : w8.cell? ⟨w2.heap.size, 4, none⟩ = some (.slice xA3 l.hash.length xC3) := heap_cell Xx15.out 4
  have cx5 : w8.cell? ⟨w2.heap.size, 5, none⟩ = some (.slice xA4 l.sgn.length xC4) := heap_cell Xx15.out 5
  have cx6 : w8.cell? ⟨w2.heap.size, 6, none⟩ = some (.slice xA5 ss.length xC5) := heap_cell Xx15.out 6
  have cp0 : w8.cell? ⟨w.heap.size, 0, none⟩ = some (.slice pA0 l.enc.length pC0) := heap_cell Xp15.out 0
  have cp1 : w8.cell? ⟨w.heap.size, 1, none⟩ = some (.slice pA1 l.sig.length pC1) := heap_cell Xp15.out 1
  have cp2 : w8.cell? ⟨w.heap.size, 2, none⟩ = some (.slice pA2 l.name.length pC2) := heap_cell Xp15.out 2
  have cp3 : w8.cell? ⟨w.heap.size, 3, none⟩ = some (.int .i64 l.src) := heap_cell Xp15.out 3
  have cp4 : w8.cell? ⟨w.heap.size, 4, none⟩ = some (.slice pA3 l.hash.length pC3) := heap_cell Xp15.out 4
  have cp5 : w8.cell? ⟨w.heap.size, 5, none⟩ = some (.slice pA4 l.sgn.length pC4) := heap_cell Xp15.out 5
  have cp6 : w8.cell? ⟨w.heap.size, 6, none⟩ = some (.slice pA5 ss.length pC5) := heap_cell Xp15.out 6
  go_wp2_with fail
  refine (samePath_any Vx15.out Vp15.out).mono ?_
  rintro en w9 ⟨rfl, k9⟩
  clear cx0 cx1 cx2 cx3 cx4 cx5 cx6
  clear cp0 cp1 cp2 cp3 cp4 cp5 cp6
  have K16 := Lib.hid (K15.out.trans k9)
  have Xp16 := Lib.hid (Kp.obj k9 Xp15.out (by simp))
  have Xx16 := Lib.hid (Kp.obj k9 Xx15.out (by simp))
  have Xd16 := Lib.hid (Kp.obj k9 Xd15.out (by simp))
  have Xh16 := Lib.hid (Kp.obj k9 Xh15.out (by simp))
  have Vp16 := Lib.hid (Vp15.out.kp k9)
  have Vx16 := Lib.hid (Vx15.out.kp k9)
  have Vd16 := Lib.hid (Vd15.out.kp k9)
  have Vh16 := Lib.hid (Vh15.out.kp k9)
  have Yb16 := Lib.hid (Yb15.out.kp k9)
  have Yt16 := Lib.hid (Yt15.out.kp k9)
  have Ya16 := Lib.hid (Ya15.out.kp k9)
  have Yc16 := Lib.hid (Yc15.out.kp k9)
  clear k9
  go_wp2_with fail
  refine (stays_any Yt16.out Yb16.out HBl.out).mono ?_
  rintro en w10 ⟨rfl, k10⟩
  have K17 := Lib.hid (K16.out.trans k10)
  have Xp17 := Lib.hid (Kp.obj k10 Xp16.out (by simp))
  have Xx17 := Lib.hid (Kp.obj k10 Xx16.out (by simp))
  have Xd17 := Lib.hid (Kp.obj k10 Xd16.out (by simp))
  have Xh17 := Lib.hid (Kp.obj k10 Xh16.out (by simp))
  have Vp17 := Lib.hid (Vp16.out.kp k10)
  have Vx17 := Lib.hid (Vx16.out.kp k10)
  have Vd17 := Lib.hid (Vd16.out.kp k10)
  have Vh17 := Lib.hid (Vh16.out.kp k10)
  have Yb17 := Lib.hid (Yb16.out.kp k10)
  have Yt17 := Lib.hid (Yt16.out.kp k10)
  have Ya17 := Lib.hid (Ya16.out.kp k10)
  have Yc17 := Lib.hid (Yc16.out.kp k10)
  clear k10
  go_wp2_with fail
  refine (num_any _ _).mono ?_
  rintro en w' ⟨rfl, rfl⟩
  go_wp2_with fail
  have hq13 := getOne Ya17.out HYl.out
  rw [HYs.out, HK1.out, HK2.out, HK3.out] at hq13
  rw [← HYs.out] at hq13
  refine (hq13).mono ?_
  rintro en w13 ⟨yA0, yA1, yA2, yA3, yA4, yA5, yC0, yC1, yC2, yC3, yC4, yC5, rfl, py, k13⟩
  have K18 := Lib.hid (K17.out.trans k13)
  have Xp18 := Lib.hid (Kp.obj k13 Xp17.out (by simp))
  have Xx18 := Lib.hid (Kp.obj k13 Xx17.out (by simp))
  have Xd18 := Lib.hid (Kp.obj k13 Xd17.out (by simp))
  have Xh18 := Lib.hid (Kp.obj k13 Xh17.out (by simp))
  have Vp18 := Lib.hid (Vp17.out.kp k13)
  have Vx18 := Lib.hid (Vx17.out.kp k13)
  have Vd18 := Lib.hid (Vd17.out.kp k13)
  have Vh18 := Lib.hid (Vh17.out.kp k13)
  have Yb18 := Lib.hid (Yb17.out.kp k13)
  have Yt18 := Lib.hid (Yt17.out.kp k13)
  have Ya18 := Lib.hid (Ya17.out.kp k13)
  have Yc18 := Lib.hid (Yc17.out.kp k13)
  have HPy := Lib.hid py
  clear k13 py hq13
  have KA19 := Lib.hid ((Kp.refl [] w13).alloc (.cells #[.slice yA0 l.enc.length yC0, .slice yA1 l.sig.length yC1, .slice yA2 l.name.length yC2, .int .i64 l.src, .slice yA3 l.hash.length yC3, .slice yA4 l.sgn.length yC4, .slice yA5 ss.length yC5] 32))
  have K20 := Lib.hid (K18.out.trans KA19.out)
  have Xp20 := Lib.hid (Kp.obj KA19.out Xp18.out (by simp))
  have Xx20 := Lib.hid (Kp.obj KA19.out Xx18.out (by simp))
  have Xd20 := Lib.hid (Kp.obj KA19.out Xd18.out (by simp))
  have Xh20 := Lib.hid (Kp.obj KA19.out Xh18.out (by simp))
  have Vp20 := Lib.hid (Vp18.out.kp KA19.out)
  have Vx20 := Lib.hid (Vx18.out.kp KA19.out)
  have Vd20 := Lib.hid (Vd18.out.kp KA19.out)
  have Vh20 := Lib.hid (Vh18.out.kp KA19.out)
  have Vy20 := Lib.hid (HPy.out.kp KA19.out)
  have Yb20 := Lib.hid (Yb18.out.kp KA19.out)
  have Yt20 := Lib.hid (Yt18.out.kp KA19.out)
  have Ya20 := Lib.hid (Ya18.out.kp KA19.out)
  have Yc20 := Lib.hid (Yc18.out.kp KA19.out)
  have Ny := Lib.hid (heap_alloc_new w13 (.cells #[.slice yA0 l.enc.length yC0, .slice yA1 l.sig.length yC1, .slice yA2 l.name.length yC2, .int .i64 l.src, .slice yA3 l.hash.length yC3, .slice yA4 l.sgn.length yC4, .slice yA5 ss.length yC5] 32))
  go_wp2_with fail
  refine (num_any _ _).mono ?_
  rintro en w' ⟨rfl, rfl⟩
  have cy0 : (w13.alloc (.cells #[.slice yA0 l.enc.length yC0, .slice yA1 l.sig.length yC1, .slice yA2 l.name.length yC2, .int .i64 l.src, .slice yA3 l.hash.length yC3, .slice yA4 l.sgn.length yC4, .slice yA5 ss.length yC5] 32)).cell? ⟨w13.heap.size, 0, none⟩ = some (.slice yA0 l.enc.length yC0) := heap_cell Ny.out 0
  have cy1 : (w13.alloc (.cells #[.slice yA0 l.enc.length yC0, .slice yA1 l.sig.length yC1, .slice yA2 l.name.length yC2, .int .i64 l.src, .slice yA3 l.hash.length yC3, .slice yA4 l.sgn.length yC4, .slice yA5 ss.length yC5] 32)).cell? ⟨w13.heap.size, 1, none⟩ = some (.slice yA1 l.sig.length yC1) := heap_cell Ny.out 1
  have cy2 : (w13.alloc (.cells #[.slice yA0 l.enc.length yC0, .slice yA1 l.sig.length yC1, .slice yA2 l.name.length yC2, .int .i64 l.src, .slice yA3 l.hash.length yC3, .slice yA4 l.sgn.length yC4, .slice yA5 ss.length yC5] 32)).cell? ⟨w13.heap.size, 2, none⟩ = some (.slice yA2 l.name.length yC2) := heap_cell Ny.out 2
  have cy3 : (w13.alloc (.cells #[.slice yA0 l.enc.length yC0, .slice yA1 l.sig.length yC1, .slice yA2 l.name.length yC2, .int .i64 l.src, .slice yA3 l.hash.length yC3, .slice yA4 l.sgn.length yC4, .slice yA5 ss.length yC5] 32)).cell? ⟨w13.heap.size, 3, none⟩ = some (.int .i64 l.src) := heap_cell Ny.out 3
  have cy4 : (w13.alloc (.cells #[.slice yA0 l.enc.length yC0, .slice yA1 l.sig.length yC1, .slice yA2 l.name.length yC2, .int .i64 l.src, .slice yA3 l.hash.length yC3, .slice yA4 l.sgn.length yC4, .slice yA5 ss.length yC5] 32)).cell? ⟨w13.heap.size, 4, none⟩ = some (.slice yA3 l.hash.length yC3) := heap_cell Ny.out 4
  have cy5 : (w13.alloc (.cells #[.slice yA0 l.enc.length yC0, .slice yA1 l.sig.length yC1, .slice yA2 l.name.length yC2, .int .i64 l.src, .slice yA3 l.hash.length yC3, .slice yA4 l.sgn.length yC4, .slice yA5 ss.length yC5] 32)).cell? ⟨w13.heap.size, 5, none⟩ = some (.slice yA4 l.sgn.length yC4) := heap_cell Ny.out 5
  have cy6 : (w13.alloc (.cells #[.slice yA0 l.enc.length yC0, .slice yA1 l.sig.length yC1, .slice yA2 l.name.length yC2, .int .i64 l.src, .slice yA3 l.hash.length yC3, .slice yA4 l.sgn.length yC4, .slice yA5 ss.length yC5] 32)).cell? ⟨w13.heap.size, 6, none⟩ = some (.slice yA5 ss.length yC5) := heap_cell Ny.out 6
  have cp0 : (w13.alloc (.cells #[.slice yA0 l.enc.length yC0, .slice yA1 l.sig.length yC1, .slice yA2 l.name.length yC2, .int .i64 l.src, .slice yA3 l.hash.length yC3, .slice yA4 l.sgn.length yC4, .slice yA5 ss.length yC5] 32)).cell? ⟨w.heap.size, 0, none⟩ = some (.slice pA0 l.enc.length pC0) := heap_cell Xp20.out 0
  have cp1 : (w13.alloc (.cells #[.slice yA0 l.enc.length yC0, .slice yA1 l.sig.length yC1, .slice yA2 l.name.length yC2, .int .i64 l.src, .slice yA3 l.hash.length yC3, .slice yA4 l.sgn.length yC4, .slice yA5 ss.length yC5] 32)).cell? ⟨w.heap.size, 1, none⟩ = some (.slice pA1 l.sig.length pC1) := heap_cell Xp20.out 1
  have cp2 : (w13.alloc (.cells #[.slice yA0 l.enc.length yC0, .slice yA1 l.sig.length yC1, .slice yA2 l.name.length yC2, .int .i64 l.src, .slice yA3 l.hash.length yC3, .slice yA4 l.sgn.length yC4, .slice yA5 ss.length yC5] 32)).cell? ⟨w.heap.size, 2, none⟩ = some (.slice pA2 l.name.length pC2) := heap_cell Xp20.out 2
  have cp3 : (w13.alloc (.cells #[.slice yA0 l.enc.length yC0, .slice yA1 l.sig.length yC1, .slice yA2 l.name.length yC2, .int .i64 l.src, .slice yA3 l.hash.length yC3, .slice yA4 l.sgn.length yC4, .slice yA5 ss.length yC5] 32)).cell? ⟨w.heap.size, 3, none⟩ = some (.int .i64 l.src) := heap_cell Xp20.out 3
  have cp4 : (w13.alloc (.cells #[.slice yA0 l.enc.length yC0, .slice yA1 l.sig.length yC1, .slice yA2 l.name.length yC2, .int .i64 l.src, .slice yA3 l.hash.length yC3, .slice yA4 l.sgn.length yC4, .slice yA5 ss.length yC5] 32)).cell? ⟨w.heap.size, 4, none⟩ = some (.slice pA3 l.hash.length pC3) := heap_cell Xp20.out 4
  have cp5 : (w13.alloc (.cells #[.slice yA0 l.enc.length yC0, .slice yA1 l.sig.length yC1, .slice yA2 l.name.length yC2, .int .i64 l.src, .slice yA3 l.hash.length yC3, .slice yA4 l.sgn.length yC4, .slice yA5 ss.length yC5] 32)).cell? ⟨w.heap.size, 5, none⟩ = some (.slice pA4 l.sgn.length pC4) := heap_cell Xp20.out 5
  have cp6 : (w13.alloc (.cells #[.slice yA0 l.enc.length yC0, .slice yA1 l.sig.length yC1, .slice yA2 l.name.length yC2, .int .i64 l.src, .slice yA3 l.hash.length yC3, .slice yA4 l.sgn.length yC4, .slice yA5 ss.length yC5] 32)).cell? ⟨w.heap.size, 6, none⟩ = some (.slice pA5 ss.length pC5) := heap_cell Xp20.out 6
  go_wp2_with fail
  refine (samePath_any Vy20.out Vp20.out).mono ?_
  rintro en w15 ⟨rfl, k15⟩
  clear cy0 cy1 cy2 cy3 cy4 cy5 cy6
  clear cp0 cp1 cp2 cp3 cp4 cp5 cp6
  have K21 := Lib.hid (K20.out.trans k15)
  have Xp21 := Lib.hid (Kp.obj k15 Xp20.out (by simp))
  have Xx21 := Lib.hid (Kp.obj k15 Xx20.out (by simp))
  have Xd21 := Lib.hid (Kp.obj k15 Xd20.out (by simp))
  have Xh21 := Lib.hid (Kp.obj k15 Xh20.out (by simp))
  have Xy21 := Lib.hid (Kp.obj k15 Ny.out (by simp))
  have Vp21 := Lib.hid (Vp20.out.kp k15)
  have Vx21 := Lib.hid (Vx20.out.kp k15)
  have Vd21 := Lib.hid (Vd20.out.kp k15)
  have Vh21 := Lib.hid (Vh20.out.kp k15)
  have Vy21 := Lib.hid (Vy20.out.kp k15)
  have Yb21 := Lib.hid (Yb20.out.kp k15)
  have Yt21 := Lib.hid (Yt20.out.kp k15)
  have Ya21 := Lib.hid (Ya20.out.kp k15)
  have Yc21 := Lib.hid (Yc20.out.kp k15)
  clear k15
  go_wp2_with fail
  refine (num_any _ _).mono ?_
  rintro en w' ⟨rfl, rfl⟩
  have cd0 : w15.cell? ⟨w5.heap.size, 0, none⟩ = some (.slice dA0 (getPathL bs).enc.length dC0) := heap_cell Xd21.out 0
  have cd1 : w15.cell? ⟨w5.heap.size, 1, none⟩ = some (.slice dA1 (getPathL bs).sig.length dC1) := heap_cell Xd21.out 1
  have cd2 : w15.cell? ⟨w5.heap.size, 2, none⟩ = some (.slice dA2 (getPathL bs).name.length dC2) := heap_cell Xd21.out 2
  have cd3 : w15.cell? ⟨w5.heap.size, 3, none⟩ = some (.int .i64 (getPathL bs).src) := heap_cell Xd21.out 3
  have cd4 : w15.cell? ⟨w5.heap.size, 4, none⟩ = some (.slice dA3 (getPathL bs).hash.length dC3) := heap_cell Xd21.out 4
  have cd5 : w15.cell? ⟨w5.heap.size, 5, none⟩ = some (.slice dA4 (getPathL bs).sgn.length dC4) := heap_cell Xd21.out 5
  have cd6 : w15.cell? ⟨w5.heap.size, 6, none⟩ = some (.slice dA5 (getPathS bs).length dC5) := heap_cell Xd21.out 6
  go_wp2_with fail
  have hq17 := putOne Vd21.out
  rw [HF1.out] at hq17
  simp only [if_true] at hq17
  rw [HF2.out] at hq17
  refine (hq17).mono ?_
  rintro en w17 ⟨fA, fC, rfl, k17, bf⟩
  clear cd0 cd1 cd2 cd3 cd4 cd5 cd6
  have K22 := Lib.hid (K21.out.trans k17)
  have Xp22 := Lib.hid (Kp.obj k17 Xp21.out (by simp))
  have Xx22 := Lib.hid (Kp.obj k17 Xx21.out (by simp))
  have Xd22 := Lib.hid (Kp.obj k17 Xd21.out (by simp))
  have Xh22 := Lib.hid (Kp.obj k17 Xh21.out (by simp))
  have Xy22 := Lib.hid (Kp.obj k17 Xy21.out (by simp))
  have Vp22 := Lib.hid (Vp21.out.kp k17)
  have Vx22 := Lib.hid (Vx21.out.kp k17)
  have Vd22 := Lib.hid (Vd21.out.kp k17)
  have Vh22 := Lib.hid (Vh21.out.kp k17)
  have Vy22 := Lib.hid (Vy21.out.kp k17)
  have Yb22 := Lib.hid (Yb21.out.kp k17)
  have Yt22 := Lib.hid (Yt21.out.kp k17)
  have Ya22 := Lib.hid (Ya21.out.kp k17)
  have Yc22 := Lib.hid (Yc21.out.kp k17)
  have HBf := Lib.hid bf
  clear k17 bf hq17
  have cv1 := bs_string HBf.out
  have cv2 := bs_string Yb22.out
  go_wp2_with fail
  refine (num_any _ _).mono ?_
  rintro en w' ⟨rfl, rfl⟩
  go_wp2_with fail
  clear cv1 cv2
  refine (knows_any _).mono ?_
  rintro en w19 ⟨rfl, k19⟩
  go_wp2
  go_ret
  exact ⟨rfl, K22.out.trans k19⟩

set_option maxRecDepth 100000 in
set_option maxHeartbeats 8000000 in
theorem pb_t1 {w : World} {vb : Value} {pA0 pA1 pA2 pA3 pA4 pA5 : Option Addr} {pC0 pC1 pC2 pC3 pC4 pC5 : Nat} {l : LeafD} {ss : List StepD} {bs : List UInt8} (hp : PathV w (.agg #[.slice pA0 l.enc.length pC0, .slice pA1 l.sig.length pC1, .slice pA2 l.name.length pC2, .int .i64 l.src, .slice pA3 l.hash.length pC3, .slice pA4 l.sgn.length pC4, .slice pA5 ss.length pC5]) l ss) (hb : Bs w vb bs) (hm : PathSmall l ss) (hl : bs.length ≤ 2097152) (hr : rightP l ss = true) (he : getPathE bs = 21) :
    Calls Tryd.prog 3 #[.agg #[.slice pA0 l.enc.length pC0, .slice pA1 l.sig.length pC1, .slice pA2 l.name.length pC2, .int .i64 l.src, .slice pA3 l.hash.length pC3, .slice pA4 l.sgn.length pC4, .slice pA5 ss.length pC5], vb] w fun e w' => e = .returned (.bool true) ∧ Kp [] w w' := by
  have HP := Lib.hid hp
  have HB := Lib.hid hb
  have HM := Lib.hid hm
  have HBl := Lib.hid (show bs.length ≤ 35184372088832 by omega)
  have HBL := Lib.hid (show bs.length ≤ 1099511627776 by omega)
  have HR := Lib.hid hr
  have HE := Lib.hid he
  obtain ⟨ys, hys⟩ : ∃ ys, ys = pathB l ss := ⟨_, rfl⟩
  have HYs := Lib.hid hys
  obtain ⟨q1, q2, q3⟩ := path_back hr
  have HK1 := Lib.hid q1
  have HK2 := Lib.hid q2
  have HK3 := Lib.hid q3
  have HYl := Lib.hid (show ys.length ≤ 1099511627776 by
    obtain ⟨a1, a2, a3⟩ := rightP_parts hr
    have h1 := putLeafB_le a1
    have h2 := stepsB_le (List.any_eq_false.2 (fun x hx => by rw [a3 x hx]; simp)) a2
    have h3 := joinV2_le (putLeafB l) (stepsB ss)
    rw [hys]
    unfold pathB
    omega)
  clear q1 q2 q3
  clear hp hb hm hl hr he hys
  go_enter Tryd.func3, Tryd.ntmps3
  have KA1 := Lib.hid ((Kp.refl [] w).alloc (.cells #[.slice pA0 l.enc.length pC0, .slice pA1 l.sig.length pC1, .slice pA2 l.name.length pC2, .int .i64 l.src, .slice pA3 l.hash.length pC3, .slice pA4 l.sgn.length pC4, .slice pA5 ss.length pC5] 27))
  have K2 := Lib.hid (KA1.out)
  have Vp2 := Lib.hid (HP.out.kp KA1.out)
  have Yb2 := Lib.hid (HB.out.kp KA1.out)
  have Np := Lib.hid (heap_alloc_new w (.cells #[.slice pA0 l.enc.length pC0, .slice pA1 l.sig.length pC1, .slice pA2 l.name.length pC2, .int .i64 l.src, .slice pA3 l.hash.length pC3, .slice pA4 l.sgn.length pC4, .slice pA5 ss.length pC5] 27))
  go_wp2_with fail
  refine (lent_any Yb2.out HBl.out).mono ?_
  rintro en w1 ⟨tA, tC, rfl, k1, lv1⟩
  have K3 := Lib.hid (K2.out.trans k1)
  have Xp3 := Lib.hid (Kp.obj k1 Np.out (by simp))
  have Vp3 := Lib.hid (Vp2.out.kp k1)
  have Yb3 := Lib.hid (Yb2.out.kp k1)
  have HT := Lib.hid lv1
  clear k1 lv1
  have cp0 : w1.cell? ⟨w.heap.size, 0, none⟩ = some (.slice pA0 l.enc.length pC0) := heap_cell Xp3.out 0
  have cp1 : w1.cell? ⟨w.heap.size, 1, none⟩ = some (.slice pA1 l.sig.length pC1) := heap_cell Xp3.out 1
  have cp2 : w1.cell? ⟨w.heap.size, 2, none⟩ = some (.slice pA2 l.name.length pC2) := heap_cell Xp3.out 2
  have cp3 : w1.cell? ⟨w.heap.size, 3, none⟩ = some (.int .i64 l.src) := heap_cell Xp3.out 3
  have cp4 : w1.cell? ⟨w.heap.size, 4, none⟩ = some (.slice pA3 l.hash.length pC3) := heap_cell Xp3.out 4
  have cp5 : w1.cell? ⟨w.heap.size, 5, none⟩ = some (.slice pA4 l.sgn.length pC4) := heap_cell Xp3.out 5
  have cp6 : w1.cell? ⟨w.heap.size, 6, none⟩ = some (.slice pA5 ss.length pC5) := heap_cell Xp3.out 6
  go_wp2_with fail
  refine (lawPath_any Vp3.out HM.out).mono ?_
  rintro en w2 ⟨u, rfl, hu, k2⟩
  have HXu := Lib.hid hu.read
  obtain ⟨xA0, xA1, xA2, xA3, xA4, xA5, xC0, xC1, xC2, xC3, xC4, xC5, rfl, -⟩ := hu
  simp only [pathCells] at HXu
  clear cp0 cp1 cp2 cp3 cp4 cp5 cp6
  have K4 := Lib.hid (K3.out.trans k2)
  have Xp4 := Lib.hid (Kp.obj k2 Xp3.out (by simp))
  have Vp4 := Lib.hid (Vp3.out.kp k2)
  have Yb4 := Lib.hid (Yb3.out.kp k2)
  have Yt4 := Lib.hid (HT.out.kp k2)
  clear k2
  have KA5 := Lib.hid ((Kp.refl [] w2).alloc (.cells #[.slice xA0 l.enc.length xC0, .slice xA1 l.sig.length xC1, .slice xA2 l.name.length xC2, .int .i64 l.src, .slice xA3 l.hash.length xC3, .slice xA4 l.sgn.length xC4, .slice xA5 ss.length xC5] 32))
  have K6 := Lib.hid (K4.out.trans KA5.out)
  have Xp6 := Lib.hid (Kp.obj KA5.out Xp4.out (by simp))
  have Vp6 := Lib.hid (Vp4.out.kp KA5.out)
  have Vx6 := Lib.hid (HXu.out.kp KA5.out)
  have Yb6 := Lib.hid (Yb4.out.kp KA5.out)
  have Yt6 := Lib.hid (Yt4.out.kp KA5.out)
  have Nx := Lib.hid (heap_alloc_new w2 (.cells #[.slice xA0 l.enc.length xC0, .slice xA1 l.sig.length xC1, .slice xA2 l.name.length xC2, .int .i64 l.src, .slice xA3 l.hash.length xC3, .slice xA4 l.sgn.length xC4, .slice xA5 ss.length xC5] 32))
  unfold pathCells
  go_wp2_with fail
  have hq3 := putOne Vx6.out
  rw [HR.out] at hq3
  simp only [if_true] at hq3
  rw [← HYs.out] at hq3
  refine (hq3).mono ?_
  rintro en w3 ⟨aA, aC, rfl, k3, ba⟩
  have K7 := Lib.hid (K6.out.trans k3)
  have Xp7 := Lib.hid (Kp.obj k3 Xp6.out (by simp))
  have Xx7 := Lib.hid (Kp.obj k3 Nx.out (by simp))
  have Vp7 := Lib.hid (Vp6.out.kp k3)
  have Vx7 := Lib.hid (Vx6.out.kp k3)
  have Yb7 := Lib.hid (Yb6.out.kp k3)
  have Yt7 := Lib.hid (Yt6.out.kp k3)
  have HBa := Lib.hid ba
  clear k3 ba hq3
  have cp0 : w3.cell? ⟨w.heap.size, 0, none⟩ = some (.slice pA0 l.enc.length pC0) := heap_cell Xp7.out 0
  have cp1 : w3.cell? ⟨w.heap.size, 1, none⟩ = some (.slice pA1 l.sig.length pC1) := heap_cell Xp7.out 1
  have cp2 : w3.cell? ⟨w.heap.size, 2, none⟩ = some (.slice pA2 l.name.length pC2) := heap_cell Xp7.out 2
  have cp3 : w3.cell? ⟨w.heap.size, 3, none⟩ = some (.int .i64 l.src) := heap_cell Xp7.out 3
  have cp4 : w3.cell? ⟨w.heap.size, 4, none⟩ = some (.slice pA3 l.hash.length pC3) := heap_cell Xp7.out 4
  have cp5 : w3.cell? ⟨w.heap.size, 5, none⟩ = some (.slice pA4 l.sgn.length pC4) := heap_cell Xp7.out 5
  have cp6 : w3.cell? ⟨w.heap.size, 6, none⟩ = some (.slice pA5 ss.length pC5) := heap_cell Xp7.out 6
  go_wp2_with fail
  have hq4 := rputOne Vp7.out
  rw [HR.out] at hq4
  simp only [if_true] at hq4
  rw [← HYs.out] at hq4
  refine (hq4).mono ?_
  rintro en w4 ⟨cA, cC, rfl, k4, bc⟩
  clear cp0 cp1 cp2 cp3 cp4 cp5 cp6
  have K8 := Lib.hid (K7.out.trans k4)
  have Xp8 := Lib.hid (Kp.obj k4 Xp7.out (by simp))
  have Xx8 := Lib.hid (Kp.obj k4 Xx7.out (by simp))
  have Vp8 := Lib.hid (Vp7.out.kp k4)
  have Vx8 := Lib.hid (Vx7.out.kp k4)
  have Yb8 := Lib.hid (Yb7.out.kp k4)
  have Yt8 := Lib.hid (Yt7.out.kp k4)
  have Ya8 := Lib.hid (HBa.out.kp k4)
  have HBc := Lib.hid bc
  clear k4 bc hq4
  go_wp2_with fail
  have hq5 := getOne Yt8.out.bs' HBL.out
  rw [HE.out] at hq5
  refine (hq5).mono ?_
  rintro en w5 ⟨dA0, dA1, dA2, dA3, dA4, dA5, dC0, dC1, dC2, dC3, dC4, dC5, rfl, pd, k5⟩
  have K9 := Lib.hid (K8.out.trans k5)
  have Xp9 := Lib.hid (Kp.obj k5 Xp8.out (by simp))
  have Xx9 := Lib.hid (Kp.obj k5 Xx8.out (by simp))
  have Vp9 := Lib.hid (Vp8.out.kp k5)
  have Vx9 := Lib.hid (Vx8.out.kp k5)
  have Yb9 := Lib.hid (Yb8.out.kp k5)
  have Yt9 := Lib.hid (Yt8.out.kp k5)
  have Ya9 := Lib.hid (Ya8.out.kp k5)
  have Yc9 := Lib.hid (HBc.out.kp k5)
  have HPd := Lib.hid pd
  clear k5 pd hq5
  have KA10 := Lib.hid ((Kp.refl [] w5).alloc (.cells #[.slice dA0 (getPathL bs).enc.length dC0, .slice dA1 (getPathL bs).sig.length dC1, .slice dA2 (getPathL bs).name.length dC2, .int .i64 (getPathL bs).src, .slice dA3 (getPathL bs).hash.length dC3, .slice dA4 (getPathL bs).sgn.length dC4, .slice dA5 (getPathS bs).length dC5] 32))
  have K11 := Lib.hid (K9.out.trans KA10.out)
  have Xp11 := Lib.hid (Kp.obj KA10.out Xp9.out (by simp))
  have Xx11 := Lib.hid (Kp.obj KA10.out Xx9.out (by simp))
  have Vp11 := Lib.hid (Vp9.out.kp KA10.out)
  have Vx11 := Lib.hid (Vx9.out.kp KA10.out)
  have Vd11 := Lib.hid (HPd.out.kp KA10.out)
  have Yb11 := Lib.hid (Yb9.out.kp KA10.out)
  have Yt11 := Lib.hid (Yt9.out.kp KA10.out)
  have Ya11 := Lib.hid (Ya9.out.kp KA10.out)
  have Yc11 := Lib.hid (Yc9.out.kp KA10.out)
  have Nd := Lib.hid (heap_alloc_new w5 (.cells #[.slice dA0 (getPathL bs).enc.length dC0, .slice dA1 (getPathL bs).sig.length dC1, .slice dA2 (getPathL bs).name.length dC2, .int .i64 (getPathL bs).src, .slice dA3 (getPathL bs).hash.length dC3, .slice dA4 (getPathL bs).sgn.length dC4, .slice dA5 (getPathS bs).length dC5] 32))
  go_wp2_with fail
  have hq6 := rgetOne Yb11.out HBL.out
  rw [HE.out] at hq6
  refine (hq6).mono ?_
  rintro en w6 ⟨hA0, hA1, hA2, hA3, hA4, hA5, hC0, hC1, hC2, hC3, hC4, hC5, rfl, ph, k6⟩
  have K12 := Lib.hid (K11.out.trans k6)
  have Xp12 := Lib.hid (Kp.obj k6 Xp11.out (by simp))
  have Xx12 := Lib.hid (Kp.obj k6 Xx11.out (by simp))
  have Xd12 := Lib.hid (Kp.obj k6 Nd.out (by simp))
  have Vp12 := Lib.hid (Vp11.out.kp k6)
  have Vx12 := Lib.hid (Vx11.out.kp k6)
  have Vd12 := Lib.hid (Vd11.out.kp k6)
  have Yb12 := Lib.hid (Yb11.out.kp k6)
  have Yt12 := Lib.hid (Yt11.out.kp k6)
  have Ya12 := Lib.hid (Ya11.out.kp k6)
  have Yc12 := Lib.hid (Yc11.out.kp k6)
  have HPh := Lib.hid ph
  clear k6 ph hq6
  have KA13 := Lib.hid ((Kp.refl [] w6).alloc (.cells #[.slice hA0 (getPathL bs).enc.length hC0, .slice hA1 (getPathL bs).sig.length hC1, .slice hA2 (getPathL bs).name.length hC2, .int .i64 (getPathL bs).src, .slice hA3 (getPathL bs).hash.length hC3, .slice hA4 (getPathL bs).sgn.length hC4, .slice hA5 (getPathS bs).length hC5] 27))
  have K14 := Lib.hid (K12.out.trans KA13.out)
  have Xp14 := Lib.hid (Kp.obj KA13.out Xp12.out (by simp))
  have Xx14 := Lib.hid (Kp.obj KA13.out Xx12.out (by simp))
  have Xd14 := Lib.hid (Kp.obj KA13.out Xd12.out (by simp))
  have Vp14 := Lib.hid (Vp12.out.kp KA13.out)
  have Vx14 := Lib.hid (Vx12.out.kp KA13.out)
  have Vd14 := Lib.hid (Vd12.out.kp KA13.out)
  have Vh14 := Lib.hid (HPh.out.kp KA13.out)
  have Yb14 := Lib.hid (Yb12.out.kp KA13.out)
  have Yt14 := Lib.hid (Yt12.out.kp KA13.out)
  have Ya14 := Lib.hid (Ya12.out.kp KA13.out)
  have Yc14 := Lib.hid (Yc12.out.kp KA13.out)
  have Nh := Lib.hid (heap_alloc_new w6 (.cells #[.slice hA0 (getPathL bs).enc.length hC0, .slice hA1 (getPathL bs).sig.length hC1, .slice hA2 (getPathL bs).name.length hC2, .int .i64 (getPathL bs).src, .slice hA3 (getPathL bs).hash.length hC3, .slice hA4 (getPathL bs).sgn.length hC4, .slice hA5 (getPathS bs).length hC5] 27))
  have cv1 := bs_string Ya14.out
  have cv2 := bs_string Yc14.out
  go_wp2_with fail
  refine (num_any _ _).mono ?_
  rintro en w' ⟨rfl, rfl⟩
  clear cv1 cv2
  have cd0 : (w6.alloc (.cells #[.slice hA0 (getPathL bs).enc.length hC0, .slice hA1 (getPathL bs).sig.length hC1, .slice hA2 (getPathL bs).name.length hC2, .int .i64 (getPathL bs).src, .slice hA3 (getPathL bs).hash.length hC3, .slice hA4 (getPathL bs).sgn.length hC4, .slice hA5 (getPathS bs).length hC5] 27)).cell? ⟨w5.heap.size, 0, none⟩ = some (.slice dA0 (getPathL bs).enc.length dC0) := heap_cell Xd14.out 0
  have cd1 : (w6.alloc (.cells #[.slice hA0 (getPathL bs).enc.length hC0, .slice hA1 (getPathL bs).sig.length hC1, .slice hA2 (getPathL bs).name.length hC2, .int .i64 (getPathL bs).src, .slice hA3 (getPathL bs).hash.length hC3, .slice hA4 (getPathL bs).sgn.length hC4, .slice hA5 (getPathS bs).length hC5] 27)).cell? ⟨w5.heap.size, 1, none⟩ = some (.slice dA1 (getPathL bs).sig.length dC1) := heap_cell Xd14.out 1
  have cd2 : (w6.alloc (.cells #[.slice hA0 (getPathL bs).enc.length hC0, .slice hA1 (getPathL bs).sig.length hC1, .slice hA2 (getPathL bs).name.length hC2, .int .i64 (getPathL bs).src, .slice hA3 (getPathL bs).hash.length hC3, .slice hA4 (getPathL bs).sgn.length hC4, .slice hA5 (getPathS bs).length hC5] 27)).cell? ⟨w5.heap.size, 2, none⟩ = some (.slice dA2 (getPathL bs).name.length dC2) := heap_cell Xd14.out 2
  have cd3 : (w6.alloc (.cells #[.slice hA0 (getPathL bs).enc.length hC0, .slice hA1 (getPathL bs).sig.length hC1, .slice hA2 (getPathL bs).name.length hC2, .int .i64 (getPathL bs).src, .slice hA3 (getPathL bs).hash.length hC3, .slice hA4 (getPathL bs).sgn.length hC4, .slice hA5 (getPathS bs).length hC5] 27)).cell? ⟨w5.heap.size, 3, none⟩ = some (.int .i64 (getPathL bs).src) := heap_cell Xd14.out 3
  have cd4 : (w6.alloc (.cells #[.slice hA0 (getPathL bs).enc.length hC0, .slice hA1 (getPathL bs).sig.length hC1, .slice hA2 (getPathL bs).name.length hC2, .int .i64 (getPathL bs).src, .slice hA3 (getPathL bs).hash.length hC3, .slice hA4 (getPathL bs).sgn.length hC4, .slice hA5 (getPathS bs).length hC5] 27)).cell? ⟨w5.heap.size, 4, none⟩ = some (.slice dA3 (getPathL bs).hash.length dC3) := heap_cell Xd14.out 4
  have cd5 : (w6.alloc (.cells #[.slice hA0 (getPathL bs).enc.length hC0, .slice hA1 (getPathL bs).sig.length hC1, .slice hA2 (getPathL bs).name.length hC2, .int .i64 (getPathL bs).src, .slice hA3 (getPathL bs).hash.length hC3, .slice hA4 (getPathL bs).sgn.length hC4, .slice hA5 (getPathS bs).length hC5] 27)).cell? ⟨w5.heap.size, 5, none⟩ = some (.slice dA4 (getPathL bs).sgn.length dC4) := heap_cell Xd14.out 5
  have cd6 : (w6.alloc (.cells #[.slice hA0 (getPathL bs).enc.length hC0, .slice hA1 (getPathL bs).sig.length hC1, .slice hA2 (getPathL bs).name.length hC2, .int .i64 (getPathL bs).src, .slice hA3 (getPathL bs).hash.length hC3, .slice hA4 (getPathL bs).sgn.length hC4, .slice hA5 (getPathS bs).length hC5] 27)).cell? ⟨w5.heap.size, 6, none⟩ = some (.slice dA5 (getPathS bs).length dC5) := heap_cell Xd14.out 6
  have ch0 : (w6.alloc (.cells #[.slice hA0 (getPathL bs).enc.length hC0, .slice hA1 (getPathL bs).sig.length hC1, .slice hA2 (getPathL bs).name.length hC2, .int .i64 (getPathL bs).src, .slice hA3 (getPathL bs).hash.length hC3, .slice hA4 (getPathL bs).sgn.length hC4, .slice hA5 (getPathS bs).length hC5] 27)).cell? ⟨w6.heap.size, 0, none⟩ = some (.slice hA0 (getPathL bs).enc.length hC0) := heap_cell Nh.out 0
  have ch1 : (w6.alloc (.cells #[.slice hA0 (getPathL bs).enc.length hC0, .slice hA1 (getPathL bs).sig.length hC1, .slice hA2 (getPathL bs).name.length hC2, .int .i64 (getPathL bs).src, .slice hA3 (getPathL bs).hash.length hC3, .slice hA4 (getPathL bs).sgn.length hC4, .slice hA5 (getPathS bs).length hC5] 27)).cell? ⟨w6.heap.size, 1, none⟩ = some (.slice hA1 (getPathL bs).sig.length hC1) := heap_cell Nh.out 1
  have ch2 : (w6.alloc (.cells #[.slice hA0 (getPathL bs).enc.length hC0, .slice hA1 (getPathL bs).sig.length hC1, .slice hA2 (getPathL bs).name.length hC2, .int .i64 (getPathL bs).src, .slice hA3 (getPathL bs).hash.length hC3, .slice hA4 (getPathL bs).sgn.length hC4, .slice hA5 (getPathS bs).length hC5] 27)).cell? ⟨w6.heap.size, 2, none⟩ = some (.slice hA2 (getPathL bs).name.length hC2) := heap_cell Nh.out 2
  have ch3 : (w6.alloc (.cells #[.slice hA0 (getPathL bs).enc.length hC0, .slice hA1 (getPathL bs).sig.length hC1, .slice hA2 (getPathL bs).name.length hC2, .int .i64 (getPathL bs).src, .slice hA3 (getPathL bs).hash.length hC3, .slice hA4 (getPathL bs).sgn.length hC4, .slice hA5 (getPathS bs).length hC5] 27)).cell? ⟨w6.heap.size, 3, none⟩ = some (.int .i64 (getPathL bs).src) := heap_cell Nh.out 3
  have ch4 : (w6.alloc (.cells #[.slice hA0 (getPathL bs).enc.length hC0, .slice hA1 (getPathL bs).sig.length hC1, .slice hA2 (getPathL bs).name.length hC2, .int .i64 (getPathL bs).src, .slice hA3 (getPathL bs).hash.length hC3, .slice hA4 (getPathL bs).sgn.length hC4, .slice hA5 (getPathS bs).length hC5] 27)).cell? ⟨w6.heap.size, 4, none⟩ = some (.slice hA3 (getPathL bs).hash.length hC3) := heap_cell Nh.out 4
  have ch5 : (w6.alloc (.cells #[.slice hA0 (getPathL bs).enc.length hC0, .slice hA1 (getPathL bs).sig.length hC1, .slice hA2 (getPathL bs).name.length hC2, .int .i64 (getPathL bs).src, .slice hA3 (getPathL bs).hash.length hC3, .slice hA4 (getPathL bs).sgn.length hC4, .slice hA5 (getPathS bs).length hC5] 27)).cell? ⟨w6.heap.size, 5, none⟩ = some (.slice hA4 (getPathL bs).sgn.length hC4) := heap_cell Nh.out 5
  have ch6 : (w6.alloc (.cells #[.slice hA0 (getPathL bs).enc.length hC0, .slice hA1 (getPathL bs).sig.length hC1, .slice hA2 (getPathL bs).name.length hC2, .int .i64 (getPathL bs).src, .slice hA3 (getPathL bs).hash.length hC3, .slice hA4 (getPathL bs).sgn.length hC4, .slice hA5 (getPathS bs).length hC5] 27)).cell? ⟨w6.heap.size, 6, none⟩ = some (.slice hA5 (getPathS bs).length hC5) := heap_cell Nh.out 6
  go_wp2_with fail
  refine (samePath_any Vd14.out Vh14.out).mono ?_
  rintro en w8 ⟨rfl, k8⟩
  clear cd0 cd1 cd2 cd3 cd4 cd5 cd6
  clear ch0 ch1 ch2 ch3 ch4 ch5 ch6
  have K15 := Lib.hid (K14.out.trans k8)
  have Xp15 := Lib.hid (Kp.obj k8 Xp14.out (by simp))
  have Xx15 := Lib.hid (Kp.obj k8 Xx14.out (by simp))
  have Xd15 := Lib.hid (Kp.obj k8 Xd14.out (by simp))
  have Xh15 := Lib.hid (Kp.obj k8 Nh.out (by simp))
  have Vp15 := Lib.hid (Vp14.out.kp k8)
  have Vx15 := Lib.hid (Vx14.out.kp k8)
  have Vd15 := Lib.hid (Vd14.out.kp k8)
  have Vh15 := Lib.hid (Vh14.out.kp k8)
  have Yb15 := Lib.hid (Yb14.out.kp k8)
  have Yt15 := Lib.hid (Yt14.out.kp k8)
  have Ya15 := Lib.hid (Ya14.out.kp k8)
  have Yc15 := Lib.hid (Yc14.out.kp k8)
  clear k8
  go_wp2_with fail
  refine (num_any _ _).mono ?_
  rintro en w' ⟨rfl, rfl⟩
  have cx0 : w8.cell? ⟨w2.heap.size, 0, none⟩ = some (.slice xA0 l.enc.length xC0) := heap_cell Xx15.out 0
  have cx1 : w8.cell? ⟨w2.heap.size, 1, none⟩ = some (.slice xA1 l.sig.length xC1) := heap_cell Xx15.out 1
  have cx2 : w8.cell? ⟨w2.heap.size, 2, none⟩ = some (.slice xA2 l.name.length xC2) := heap_cell Xx15.out 2
  have cx3 : w8.cell? ⟨w2.heap.size, 3, none⟩ = some (.int .i64 l.src) := heap_cell Xx15.out 3
  have cx4 : w8.cell? ⟨w2.heap.size, 4, none⟩ = some (.slice xA3 l.hash.length xC3) := heap_cell Xx15.out 4
  have cx5 : w8.cell? ⟨w2.heap.size, 5, none⟩ = some (.slice xA4 l.sgn.length xC4) := heap_cell Xx15.out 5
  have cx6 : w8.cell? ⟨w2.heap.size, 6, none⟩ = some (.slice xA5 ss.length xC5) := heap_cell Xx15.out 6
  have cp0 : w8.cell? ⟨w.heap.size, 0, none⟩ = some (.slice pA0 l.enc.length pC0) := heap_cell Xp15.out 0
  have cp1 : w8.cell? ⟨w.heap.size, 1, none⟩ = some (.slice pA1 l.sig.length pC1) := heap_cell Xp15.out 1
  have cp2 : w8.cell? ⟨w.heap.size, 2, none⟩ = some (.slice pA2 l.name.length pC2) := heap_cell Xp15.out 2
  have cp3 : w8.cell? ⟨w.heap.size, 3, none⟩ = some (.int .i64 l.src) := heap_cell Xp15.out 3
  have cp4 : w8.cell? ⟨w.heap.size, 4, none⟩ = some (.slice pA3 l.hash.length pC3) := heap_cell Xp15.out 4
  have cp5 : w8.cell? ⟨w.heap.size, 5, none⟩ = some (.slice pA4 l.sgn.length pC4) := heap_cell Xp15.out 5
  have cp6 : w8.cell? ⟨w.heap.size, 6, none⟩ = some (.slice pA5 ss.length pC5) := heap_cell Xp15.out 6
  go_wp2_with fail
  refine (samePath_any Vx15.out Vp15.out).mono ?_
  rintro en w9 ⟨rfl, k9⟩
  clear cx0 cx1 cx2 cx3 cx4 cx5 cx6
  clear cp0 cp1 cp2 cp3 cp4 cp5 cp6
  have K16 := Lib.hid (K15.out.trans k9)
  have Xp16 := Lib.hid (Kp.obj k9 Xp15.out (by simp))
  have Xx16 := Lib.hid (Kp.obj k9 Xx15.out (by simp))
  have Xd16 := Lib.hid (Kp.obj k9 Xd15.out (by simp))
  have Xh16 := Lib.hid (Kp.obj k9 Xh15.out (by simp))
  have Vp16 := Lib.hid (Vp15.out.kp k9)
  have Vx16 := Lib.hid (Vx15.out.kp k9)
  have Vd16 := Lib.hid (Vd15.out.kp k9)
  have Vh16 := Lib.hid (Vh15.out.kp k9)
  have Yb16 := Lib.hid (Yb15.out.kp k9)
  have Yt16 := Lib.hid (Yt15.out.kp k9)
  have Ya16 := Lib.hid (Ya15.out.kp k9)
  have Yc16 := Lib.hid (Yc15.out.kp k9)
  clear k9
  go_wp2_with fail
  refine (stays_any Yt16.out Yb16.out HBl.out).mono ?_
  rintro en w10 ⟨rfl, k10⟩
  have K17 := Lib.hid (K16.out.trans k10)
  have Xp17 := Lib.hid (Kp.obj k10 Xp16.out (by simp))
  have Xx17 := Lib.hid (Kp.obj k10 Xx16.out (by simp))
  have Xd17 := Lib.hid (Kp.obj k10 Xd16.out (by simp))
  have Xh17 := Lib.hid (Kp.obj k10 Xh16.out (by simp))
  have Vp17 := Lib.hid (Vp16.out.kp k10)
  have Vx17 := Lib.hid (Vx16.out.kp k10)
  have Vd17 := Lib.hid (Vd16.out.kp k10)
  have Vh17 := Lib.hid (Vh16.out.kp k10)
  have Yb17 := Lib.hid (Yb16.out.kp k10)
  have Yt17 := Lib.hid (Yt16.out.kp k10)
  have Ya17 := Lib.hid (Ya16.out.kp k10)
  have Yc17 := Lib.hid (Yc16.out.kp k10)
  clear k10
  go_wp2_with fail
  refine (num_any _ _).mono ?_
  rintro en w' ⟨rfl, rfl⟩
  go_wp2_with fail
  have hq13 := getOne Ya17.out HYl.out
  rw [HYs.out, HK1.out, HK2.out, HK3.out] at hq13
  rw [← HYs.out] at hq13
  refine (hq13).mono ?_
  rintro en w13 ⟨yA0, yA1, yA2, yA3, yA4, yA5, yC0, yC1, yC2, yC3, yC4, yC5, rfl, py, k13⟩
  have K18 := Lib.hid (K17.out.trans k13)
  have Xp18 := Lib.hid (Kp.obj k13 Xp17.out (by simp))
  have Xx18 := Lib.hid (Kp.obj k13 Xx17.out (by simp))
  have Xd18 := Lib.hid (Kp.obj k13 Xd17.out (by simp))
  have Xh18 := Lib.hid (Kp.obj k13 Xh17.out (by simp))
  have Vp18 := Lib.hid (Vp17.out.kp k13)
  have Vx18 := Lib.hid (Vx17.out.kp k13)
  have Vd18 := Lib.hid (Vd17.out.kp k13)
  have Vh18 := Lib.hid (Vh17.out.kp k13)
  have Yb18 := Lib.hid (Yb17.out.kp k13)
  have Yt18 := Lib.hid (Yt17.out.kp k13)
  have Ya18 := Lib.hid (Ya17.out.kp k13)
  have Yc18 := Lib.hid (Yc17.out.kp k13)
  have HPy := Lib.hid py
  clear k13 py hq13
  have KA19 := Lib.hid ((Kp.refl [] w13).alloc (.cells #[.slice yA0 l.enc.length yC0, .slice yA1 l.sig.length yC1, .slice yA2 l.name.length yC2, .int .i64 l.src, .slice yA3 l.hash.length yC3, .slice yA4 l.sgn.length yC4, .slice yA5 ss.length yC5] 32))
  have K20 := Lib.hid (K18.out.trans KA19.out)
  have Xp20 := Lib.hid (Kp.obj KA19.out Xp18.out (by simp))
  have Xx20 := Lib.hid (Kp.obj KA19.out Xx18.out (by simp))
  have Xd20 := Lib.hid (Kp.obj KA19.out Xd18.out (by simp))
  have Xh20 := Lib.hid (Kp.obj KA19.out Xh18.out (by simp))
  have Vp20 := Lib.hid (Vp18.out.kp KA19.out)
  have Vx20 := Lib.hid (Vx18.out.kp KA19.out)
  have Vd20 := Lib.hid (Vd18.out.kp KA19.out)
  have Vh20 := Lib.hid (Vh18.out.kp KA19.out)
  have Vy20 := Lib.hid (HPy.out.kp KA19.out)
  have Yb20 := Lib.hid (Yb18.out.kp KA19.out)
  have Yt20 := Lib.hid (Yt18.out.kp KA19.out)
  have Ya20 := Lib.hid (Ya18.out.kp KA19.out)
  have Yc20 := Lib.hid (Yc18.out.kp KA19.out)
  have Ny := Lib.hid (heap_alloc_new w13 (.cells #[.slice yA0 l.enc.length yC0, .slice yA1 l.sig.length yC1, .slice yA2 l.name.length yC2, .int .i64 l.src, .slice yA3 l.hash.length yC3, .slice yA4 l.sgn.length yC4, .slice yA5 ss.length yC5] 32))
  go_wp2_with fail
  refine (num_any _ _).mono ?_
  rintro en w' ⟨rfl, rfl⟩
  have cy0 : (w13.alloc (.cells #[.slice yA0 l.enc.length yC0, .slice yA1 l.sig.length yC1, .slice yA2 l.name.length yC2, .int .i64 l.src, .slice yA3 l.hash.length yC3, .slice yA4 l.sgn.length yC4, .slice yA5 ss.length yC5] 32)).cell? ⟨w13.heap.size, 0, none⟩ = some (.slice yA0 l.enc.length yC0) := heap_cell Ny.out 0
  have cy1 : (w13.alloc (.cells #[.slice yA0 l.enc.length yC0, .slice yA1 l.sig.length yC1, .slice yA2 l.name.length yC2, .int .i64 l.src, .slice yA3 l.hash.length yC3, .slice yA4 l.sgn.length yC4, .slice yA5 ss.length yC5] 32)).cell? ⟨w13.heap.size, 1, none⟩ = some (.slice yA1 l.sig.length yC1) := heap_cell Ny.out 1
  have cy2 : (w13.alloc (.cells #[.slice yA0 l.enc.length yC0, .slice yA1 l.sig.length yC1, .slice yA2 l.name.length yC2, .int .i64 l.src, .slice yA3 l.hash.length yC3, .slice yA4 l.sgn.length yC4, .slice yA5 ss.length yC5] 32)).cell? ⟨w13.heap.size, 2, none⟩ = some (.slice yA2 l.name.length yC2) := heap_cell Ny.out 2
  have cy3 : (w13.alloc (.cells #[.slice yA0 l.enc.length yC0, .slice yA1 l.sig.length yC1, .slice yA2 l.name.length yC2, .int .i64 l.src, .slice yA3 l.hash.length yC3, .slice yA4 l.sgn.length yC4, .slice yA5 ss.length yC5] 32)).cell? ⟨w13.heap.size, 3, none⟩ = some (.int .i64 l.src) := heap_cell Ny.out 3
  have cy4 : (w13.alloc (.cells #[.slice yA0 l.enc.length yC0, .slice yA1 l.sig.length yC1, .slice yA2 l.name.length yC2, .int .i64 l.src, .slice yA3 l.hash.length yC3, .slice yA4 l.sgn.length yC4, .slice yA5 ss.length yC5] 32)).cell? ⟨w13.heap.size, 4, none⟩ = some (.slice yA3 l.hash.length yC3) := heap_cell Ny.out 4
  have cy5 : (w13.alloc (.cells #[.slice yA0 l.enc.length yC0, .slice yA1 l.sig.length yC1, .slice yA2 l.name.length yC2, .int .i64 l.src, .slice yA3 l.hash.length yC3, .slice yA4 l.sgn.length yC4, .slice yA5 ss.length yC5] 32)).cell? ⟨w13.heap.size, 5, none⟩ = some (.slice yA4 l.sgn.length yC4) := heap_cell Ny.out 5
  have cy6 : (w13.alloc (.cells #[.slice yA0 l.enc.length yC0, .slice yA1 l.sig.length yC1, .slice yA2 l.name.length yC2, .int .i64 l.src, .slice yA3 l.hash.length yC3, .slice yA4 l.sgn.length yC4, .slice yA5 ss.length yC5] 32)).cell? ⟨w13.heap.size, 6, none⟩ = some (.slice yA5 ss.length yC5) := heap_cell Ny.out 6
  have cp0 : (w13.alloc (.cells #[.slice yA0 l.enc.length yC0, .slice yA1 l.sig.length yC1, .slice yA2 l.name.length yC2, .int .i64 l.src, .slice yA3 l.hash.length yC3, .slice yA4 l.sgn.length yC4, .slice yA5 ss.length yC5] 32)).cell? ⟨w.heap.size, 0, none⟩ = some (.slice pA0 l.enc.length pC0) := heap_cell Xp20.out 0
  have cp1 : (w13.alloc (.cells #[.slice yA0 l.enc.length yC0, .slice yA1 l.sig.length yC1, .slice yA2 l.name.length yC2, .int .i64 l.src, .slice yA3 l.hash.length yC3, .slice yA4 l.sgn.length yC4, .slice yA5 ss.length yC5] 32)).cell? ⟨w.heap.size, 1, none⟩ = some (.slice pA1 l.sig.length pC1) := heap_cell Xp20.out 1
  have cp2 : (w13.alloc (.cells #[.slice yA0 l.enc.length yC0, .slice yA1 l.sig.length yC1, .slice yA2 l.name.length yC2, .int .i64 l.src, .slice yA3 l.hash.length yC3, .slice yA4 l.sgn.length yC4, .slice yA5 ss.length yC5] 32)).cell? ⟨w.heap.size, 2, none⟩ = some (.slice pA2 l.name.length pC2) := heap_cell Xp20.out 2
  have cp3 : (w13.alloc (.cells #[.slice yA0 l.enc.length yC0, .slice yA1 l.sig.length yC1, .slice yA2 l.name.length yC2, .int .i64 l.src, .slice yA3 l.hash.length yC3, .slice yA4 l.sgn.length yC4, .slice yA5 ss.length yC5] 32)).cell? ⟨w.heap.size, 3, none⟩ = some (.int .i64 l.src) := heap_cell Xp20.out 3
  have cp4 : (w13.alloc (.cells #[.slice yA0 l.enc.length yC0, .slice yA1 l.sig.length yC1, .slice yA2 l.name.length yC2, .int .i64 l.src, .slice yA3 l.hash.length yC3, .slice yA4 l.sgn.length yC4, .slice yA5 ss.length yC5] 32)).cell? ⟨w.heap.size, 4, none⟩ = some (.slice pA3 l.hash.length pC3) := heap_cell Xp20.out 4
  have cp5 : (w13.alloc (.cells #[.slice yA0 l.enc.length yC0, .slice yA1 l.sig.length yC1, .slice yA2 l.name.length yC2, .int .i64 l.src, .slice yA3 l.hash.length yC3, .slice yA4 l.sgn.length yC4, .slice yA5 ss.length yC5] 32)).cell? ⟨w.heap.size, 5, none⟩ = some (.slice pA4 l.sgn.length pC4) := heap_cell Xp20.out 5
  have cp6 : (w13.alloc (.cells #[.slice yA0 l.enc.length yC0, .slice yA1 l.sig.length yC1, .slice yA2 l.name.length yC2, .int .i64 l.src, .slice yA3 l.hash.length yC3, .slice yA4 l.sgn.length yC4, .slice yA5 ss.length yC5] 32)).cell? ⟨w.heap.size, 6, none⟩ = some (.slice pA5 ss.length pC5) := heap_cell Xp20.out 6
  go_wp2_with fail
  refine (samePath_any Vy20.out Vp20.out).mono ?_
  rintro en w15 ⟨rfl, k15⟩
  clear cy0 cy1 cy2 cy3 cy4 cy5 cy6
  clear cp0 cp1 cp2 cp3 cp4 cp5 cp6
  have K21 := Lib.hid (K20.out.trans k15)
  have Xp21 := Lib.hid (Kp.obj k15 Xp20.out (by simp))
  have Xx21 := Lib.hid (Kp.obj k15 Xx20.out (by simp))
  have Xd21 := Lib.hid (Kp.obj k15 Xd20.out (by simp))
  have Xh21 := Lib.hid (Kp.obj k15 Xh20.out (by simp))
  have Xy21 := Lib.hid (Kp.obj k15 Ny.out (by simp))
  have Vp21 := Lib.hid (Vp20.out.kp k15)
  have Vx21 := Lib.hid (Vx20.out.kp k15)
  have Vd21 := Lib.hid (Vd20.out.kp k15)
  have Vh21 := Lib.hid (Vh20.out.kp k15)
  have Vy21 := Lib.hid (Vy20.out.kp k15)
  have Yb21 := Lib.hid (Yb20.out.kp k15)
  have Yt21 := Lib.hid (Yt20.out.kp k15)
  have Ya21 := Lib.hid (Ya20.out.kp k15)
  have Yc21 := Lib.hid (Yc20.out.kp k15)
  clear k15
  go_wp2_with fail
  refine (num_any _ _).mono ?_
  rintro en w' ⟨rfl, rfl⟩
  go_wp2_with fail
  refine (knows_any _).mono ?_
  rintro en w19 ⟨rfl, k19⟩
  go_wp2
  go_ret
  exact ⟨rfl, K21.out.trans k19⟩

set_option maxRecDepth 100000 in
set_option maxHeartbeats 8000000 in
theorem pb_f0 {w : World} {vb : Value} {pA0 pA1 pA2 pA3 pA4 pA5 : Option Addr} {pC0 pC1 pC2 pC3 pC4 pC5 : Nat} {l : LeafD} {ss : List StepD} {bs : List UInt8} (hp : PathV w (.agg #[.slice pA0 l.enc.length pC0, .slice pA1 l.sig.length pC1, .slice pA2 l.name.length pC2, .int .i64 l.src, .slice pA3 l.hash.length pC3, .slice pA4 l.sgn.length pC4, .slice pA5 ss.length pC5]) l ss) (hb : Bs w vb bs) (hm : PathSmall l ss) (hl : bs.length ≤ 2097152) (hr : rightP l ss = false) (he : getPathE bs = 0) :
    Calls Tryd.prog 3 #[.agg #[.slice pA0 l.enc.length pC0, .slice pA1 l.sig.length pC1, .slice pA2 l.name.length pC2, .int .i64 l.src, .slice pA3 l.hash.length pC3, .slice pA4 l.sgn.length pC4, .slice pA5 ss.length pC5], vb] w fun e w' => e = .returned (.bool true) ∧ Kp [] w w' := by
  have HP := Lib.hid hp
  have HB := Lib.hid hb
  have HM := Lib.hid hm
  have HBl := Lib.hid (show bs.length ≤ 35184372088832 by omega)
  have HBL := Lib.hid (show bs.length ≤ 1099511627776 by omega)
  have HR := Lib.hid hr
  have HE := Lib.hid he
  obtain ⟨ys, hys⟩ : ∃ ys, ys = ([] : List UInt8) := ⟨_, rfl⟩
  have HYs := Lib.hid hys
  obtain ⟨q1, q2⟩ := path_forth he
  have HF1 := Lib.hid q1
  have HF2 := Lib.hid q2
  clear q1 q2
  clear hp hb hm hl hr he hys
  go_enter Tryd.func3, Tryd.ntmps3
  have KA1 := Lib.hid ((Kp.refl [] w).alloc (.cells #[.slice pA0 l.enc.length pC0, .slice pA1 l.sig.length pC1, .slice pA2 l.name.length pC2, .int .i64 l.src, .slice pA3 l.hash.length pC3, .slice pA4 l.sgn.length pC4, .slice pA5 ss.length pC5] 27))
  have K2 := Lib.hid (KA1.out)
  have Vp2 := Lib.hid (HP.out.kp KA1.out)
  have Yb2 := Lib.hid (HB.out.kp KA1.out)
  have Np := Lib.hid (heap_alloc_new w (.cells #[.slice pA0 l.enc.length pC0, .slice pA1 l.sig.length pC1, .slice pA2 l.name.length pC2, .int .i64 l.src, .slice pA3 l.hash.length pC3, .slice pA4 l.sgn.length pC4, .slice pA5 ss.length pC5] 27))
  go_wp2_with fail
  refine (lent_any Yb2.out HBl.out).mono ?_
  rintro en w1 ⟨tA, tC, rfl, k1, lv1⟩
  have K3 := Lib.hid (K2.out.trans k1)
  have Xp3 := Lib.hid (Kp.obj k1 Np.out (by simp))
  have Vp3 := Lib.hid (Vp2.out.kp k1)
  have Yb3 := Lib.hid (Yb2.out.kp k1)
  have HT := Lib.hid lv1
  clear k1 lv1
  have cp0 : w1.cell? ⟨w.heap.size, 0, none⟩ = some (.slice pA0 l.enc.length pC0) := heap_cell Xp3.out 0
  have cp1 : w1.cell? ⟨w.heap.size, 1, none⟩ = some (.slice pA1 l.sig.length pC1) := heap_cell Xp3.out 1
  have cp2 : w1.cell? ⟨w.heap.size, 2, none⟩ = some (.slice pA2 l.name.length pC2) := heap_cell Xp3.out 2
  have cp3 : w1.cell? ⟨w.heap.size, 3, none⟩ = some (.int .i64 l.src) := heap_cell Xp3.out 3
  have cp4 : w1.cell? ⟨w.heap.size, 4, none⟩ = some (.slice pA3 l.hash.length pC3) := heap_cell Xp3.out 4
  have cp5 : w1.cell? ⟨w.heap.size, 5, none⟩ = some (.slice pA4 l.sgn.length pC4) := heap_cell Xp3.out 5
  have cp6 : w1.cell? ⟨w.heap.size, 6, none⟩ = some (.slice pA5 ss.length pC5) := heap_cell Xp3.out 6
  go_wp2_with fail
  refine (lawPath_any Vp3.out HM.out).mono ?_
  rintro en w2 ⟨u, rfl, hu, k2⟩
  have HXu := Lib.hid hu.read
  obtain ⟨xA0, xA1, xA2, xA3, xA4, xA5, xC0, xC1, xC2, xC3, xC4, xC5, rfl, -⟩ := hu
  simp only [pathCells] at HXu
  clear cp0 cp1 cp2 cp3 cp4 cp5 cp6
  have K4 := Lib.hid (K3.out.trans k2)
  have Xp4 := Lib.hid (Kp.obj k2 Xp3.out (by simp))
  have Vp4 := Lib.hid (Vp3.out.kp k2)
  have Yb4 := Lib.hid (Yb3.out.kp k2)
  have Yt4 := Lib.hid (HT.out.kp k2)
  clear k2
  have KA5 := Lib.hid ((Kp.refl [] w2).alloc (.cells #[.slice xA0 l.enc.length xC0, .slice xA1 l.sig.length xC1, .slice xA2 l.name.length xC2, .int .i64 l.src, .slice xA3 l.hash.length xC3, .slice xA4 l.sgn.length xC4, .slice xA5 ss.length xC5] 32))
  have K6 := Lib.hid (K4.out.trans KA5.out)
  have Xp6 := Lib.hid (Kp.obj KA5.out Xp4.out (by simp))
  have Vp6 := Lib.hid (Vp4.out.kp KA5.out)
  have Vx6 := Lib.hid (HXu.out.kp KA5.out)
  have Yb6 := Lib.hid (Yb4.out.kp KA5.out)
  have Yt6 := Lib.hid (Yt4.out.kp KA5.out)
  have Nx := Lib.hid (heap_alloc_new w2 (.cells #[.slice xA0 l.enc.length xC0, .slice xA1 l.sig.length xC1, .slice xA2 l.name.length xC2, .int .i64 l.src, .slice xA3 l.hash.length xC3, .slice xA4 l.sgn.length xC4, .slice xA5 ss.length xC5] 32))
  unfold pathCells
  go_wp2_with fail
  have hq3 := putOne Vx6.out
  rw [HR.out] at hq3
  simp only [Bool.false_eq_true, if_false] at hq3
  rw [← HYs.out] at hq3
  refine (hq3).mono ?_
  rintro en w3 ⟨aA, aC, rfl, k3, ba⟩
  have K7 := Lib.hid (K6.out.trans k3)
  have Xp7 := Lib.hid (Kp.obj k3 Xp6.out (by simp))
  have Xx7 := Lib.hid (Kp.obj k3 Nx.out (by simp))
  have Vp7 := Lib.hid (Vp6.out.kp k3)
  have Vx7 := Lib.hid (Vx6.out.kp k3)
  have Yb7 := Lib.hid (Yb6.out.kp k3)
  have Yt7 := Lib.hid (Yt6.out.kp k3)
  have HBa := Lib.hid ba
  clear k3 ba hq3
  have cp0 : w3.cell? ⟨w.heap.size, 0, none⟩ = some (.slice pA0 l.enc.length pC0) := heap_cell Xp7.out 0
  have cp1 : w3.cell? ⟨w.heap.size, 1, none⟩ = some (.slice pA1 l.sig.length pC1) := heap_cell Xp7.out 1
  have cp2 : w3.cell? ⟨w.heap.size, 2, none⟩ = some (.slice pA2 l.name.length pC2) := heap_cell Xp7.out 2
  have cp3 : w3.cell? ⟨w.heap.size, 3, none⟩ = some (.int .i64 l.src) := heap_cell Xp7.out 3
  have cp4 : w3.cell? ⟨w.heap.size, 4, none⟩ = some (.slice pA3 l.hash.length pC3) := heap_cell Xp7.out 4
  have cp5 : w3.cell? ⟨w.heap.size, 5, none⟩ = some (.slice pA4 l.sgn.length pC4) := heap_cell Xp7.out 5
  have cp6 : w3.cell? ⟨w.heap.size, 6, none⟩ = some (.slice pA5 ss.length pC5) := heap_cell Xp7.out 6
  go_wp2_with fail
  have hq4 := rputOne Vp7.out
  rw [HR.out] at hq4
  simp only [Bool.false_eq_true, if_false] at hq4
  rw [← HYs.out] at hq4
  refine (hq4).mono ?_
  rintro en w4 ⟨cA, cC, rfl, k4, bc⟩
  clear cp0 cp1 cp2 cp3 cp4 cp5 cp6
  have K8 := Lib.hid (K7.out.trans k4)
  have Xp8 := Lib.hid (Kp.obj k4 Xp7.out (by simp))
  have Xx8 := Lib.hid (Kp.obj k4 Xx7.out (by simp))
  have Vp8 := Lib.hid (Vp7.out.kp k4)
  have Vx8 := Lib.hid (Vx7.out.kp k4)
  have Yb8 := Lib.hid (Yb7.out.kp k4)
  have Yt8 := Lib.hid (Yt7.out.kp k4)
  have Ya8 := Lib.hid (HBa.out.kp k4)
  have HBc := Lib.hid bc
  clear k4 bc hq4
  go_wp2_with fail
  have hq5 := getOne Yt8.out.bs' HBL.out
  rw [HE.out] at hq5
  refine (hq5).mono ?_
  rintro en w5 ⟨dA0, dA1, dA2, dA3, dA4, dA5, dC0, dC1, dC2, dC3, dC4, dC5, rfl, pd, k5⟩
  have K9 := Lib.hid (K8.out.trans k5)
  have Xp9 := Lib.hid (Kp.obj k5 Xp8.out (by simp))
  have Xx9 := Lib.hid (Kp.obj k5 Xx8.out (by simp))
  have Vp9 := Lib.hid (Vp8.out.kp k5)
  have Vx9 := Lib.hid (Vx8.out.kp k5)
  have Yb9 := Lib.hid (Yb8.out.kp k5)
  have Yt9 := Lib.hid (Yt8.out.kp k5)
  have Ya9 := Lib.hid (Ya8.out.kp k5)
  have Yc9 := Lib.hid (HBc.out.kp k5)
  have HPd := Lib.hid pd
  clear k5 pd hq5
  have KA10 := Lib.hid ((Kp.refl [] w5).alloc (.cells #[.slice dA0 (getPathL bs).enc.length dC0, .slice dA1 (getPathL bs).sig.length dC1, .slice dA2 (getPathL bs).name.length dC2, .int .i64 (getPathL bs).src, .slice dA3 (getPathL bs).hash.length dC3, .slice dA4 (getPathL bs).sgn.length dC4, .slice dA5 (getPathS bs).length dC5] 32))
  have K11 := Lib.hid (K9.out.trans KA10.out)
  have Xp11 := Lib.hid (Kp.obj KA10.out Xp9.out (by simp))
  have Xx11 := Lib.hid (Kp.obj KA10.out Xx9.out (by simp))
  have Vp11 := Lib.hid (Vp9.out.kp KA10.out)
  have Vx11 := Lib.hid (Vx9.out.kp KA10.out)
  have Vd11 := Lib.hid (HPd.out.kp KA10.out)
  have Yb11 := Lib.hid (Yb9.out.kp KA10.out)
  have Yt11 := Lib.hid (Yt9.out.kp KA10.out)
  have Ya11 := Lib.hid (Ya9.out.kp KA10.out)
  have Yc11 := Lib.hid (Yc9.out.kp KA10.out)
  have Nd := Lib.hid (heap_alloc_new w5 (.cells #[.slice dA0 (getPathL bs).enc.length dC0, .slice dA1 (getPathL bs).sig.length dC1, .slice dA2 (getPathL bs).name.length dC2, .int .i64 (getPathL bs).src, .slice dA3 (getPathL bs).hash.length dC3, .slice dA4 (getPathL bs).sgn.length dC4, .slice dA5 (getPathS bs).length dC5] 32))
  go_wp2_with fail
  have hq6 := rgetOne Yb11.out HBL.out
  rw [HE.out] at hq6
  refine (hq6).mono ?_
  rintro en w6 ⟨hA0, hA1, hA2, hA3, hA4, hA5, hC0, hC1, hC2, hC3, hC4, hC5, rfl, ph, k6⟩
  have K12 := Lib.hid (K11.out.trans k6)
  have Xp12 := Lib.hid (Kp.obj k6 Xp11.out (by simp))
  have Xx12 := Lib.hid (Kp.obj k6 Xx11.out (by simp))
  have Xd12 := Lib.hid (Kp.obj k6 Nd.out (by simp))
  have Vp12 := Lib.hid (Vp11.out.kp k6)
  have Vx12 := Lib.hid (Vx11.out.kp k6)
  have Vd12 := Lib.hid (Vd11.out.kp k6)
  have Yb12 := Lib.hid (Yb11.out.kp k6)
  have Yt12 := Lib.hid (Yt11.out.kp k6)
  have Ya12 := Lib.hid (Ya11.out.kp k6)
  have Yc12 := Lib.hid (Yc11.out.kp k6)
  have HPh := Lib.hid ph
  clear k6 ph hq6
  have KA13 := Lib.hid ((Kp.refl [] w6).alloc (.cells #[.slice hA0 (getPathL bs).enc.length hC0, .slice hA1 (getPathL bs).sig.length hC1, .slice hA2 (getPathL bs).name.length hC2, .int .i64 (getPathL bs).src, .slice hA3 (getPathL bs).hash.length hC3, .slice hA4 (getPathL bs).sgn.length hC4, .slice hA5 (getPathS bs).length hC5] 27))
  have K14 := Lib.hid (K12.out.trans KA13.out)
  have Xp14 := Lib.hid (Kp.obj KA13.out Xp12.out (by simp))
  have Xx14 := Lib.hid (Kp.obj KA13.out Xx12.out (by simp))
  have Xd14 := Lib.hid (Kp.obj KA13.out Xd12.out (by simp))
  have Vp14 := Lib.hid (Vp12.out.kp KA13.out)
  have Vx14 := Lib.hid (Vx12.out.kp KA13.out)
  have Vd14 := Lib.hid (Vd12.out.kp KA13.out)
  have Vh14 := Lib.hid (HPh.out.kp KA13.out)
  have Yb14 := Lib.hid (Yb12.out.kp KA13.out)
  have Yt14 := Lib.hid (Yt12.out.kp KA13.out)
  have Ya14 := Lib.hid (Ya12.out.kp KA13.out)
  have Yc14 := Lib.hid (Yc12.out.kp KA13.out)
  have Nh := Lib.hid (heap_alloc_new w6 (.cells #[.slice hA0 (getPathL bs).enc.length hC0, .slice hA1 (getPathL bs).sig.length hC1, .slice hA2 (getPathL bs).name.length hC2, .int .i64 (getPathL bs).src, .slice hA3 (getPathL bs).hash.length hC3, .slice hA4 (getPathL bs).sgn.length hC4, .slice hA5 (getPathS bs).length hC5] 27))
  have cv1 := bs_string Ya14.out
  have cv2 := bs_string Yc14.out
  go_wp2_with fail
  refine (num_any _ _).mono ?_
  rintro en w' ⟨rfl, rfl⟩
  clear cv1 cv2
  have cd0 : (w6.alloc (.cells #[.slice hA0 (getPathL bs).enc.length hC0, .slice hA1 (getPathL bs).sig.length hC1, .slice hA2 (getPathL bs).name.length hC2, .int .i64 (getPathL bs).src, .slice hA3 (getPathL bs).hash.length hC3, .slice hA4 (getPathL bs).sgn.length hC4, .slice hA5 (getPathS bs).length hC5] 27)).cell? ⟨w5.heap.size, 0, none⟩ = some (.slice dA0 (getPathL bs).enc.length dC0) := heap_cell Xd14.out 0
  have cd1 : (w6.alloc (.cells #[.slice hA0 (getPathL bs).enc.length hC0, .slice hA1 (getPathL bs).sig.length hC1, .slice hA2 (getPathL bs).name.length hC2, .int .i64 (getPathL bs).src, .slice hA3 (getPathL bs).hash.length hC3, .slice hA4 (getPathL bs).sgn.length hC4, .slice hA5 (getPathS bs).length hC5] 27)).cell? ⟨w5.heap.size, 1, none⟩ = some (.slice dA1 (getPathL bs).sig.length dC1) := heap_cell Xd14.out 1
  have cd2 : (w6.alloc (.cells #[.slice hA0 (getPathL bs).enc.length hC0, .slice hA1 (getPathL bs).sig.length hC1, .slice hA2 (getPathL bs).name.length hC2, .int .i64 (getPathL bs).src, .slice hA3 (getPathL bs).hash.length hC3, .slice hA4 (getPathL bs).sgn.length hC4, .slice hA5 (getPathS bs).length hC5] 27)).cell? ⟨w5.heap.size, 2, none⟩ = some (.slice dA2 (getPathL bs).name.length dC2) := heap_cell Xd14.out 2
  have cd3 : (w6.alloc (.cells #[.slice hA0 (getPathL bs).enc.length hC0, .slice hA1 (getPathL bs).sig.length hC1, .slice hA2 (getPathL bs).name.length hC2, .int .i64 (getPathL bs).src, .slice hA3 (getPathL bs).hash.length hC3, .slice hA4 (getPathL bs).sgn.length hC4, .slice hA5 (getPathS bs).length hC5] 27)).cell? ⟨w5.heap.size, 3, none⟩ = some (.int .i64 (getPathL bs).src) := heap_cell Xd14.out 3
  have cd4 : (w6.alloc (.cells #[.slice hA0 (getPathL bs).enc.length hC0, .slice hA1 (getPathL bs).sig.length hC1, .slice hA2 (getPathL bs).name.length hC2, .int .i64 (getPathL bs).src, .slice hA3 (getPathL bs).hash.length hC3, .slice hA4 (getPathL bs).sgn.length hC4, .slice hA5 (getPathS bs).length hC5] 27)).cell? ⟨w5.heap.size, 4, none⟩ = some (.slice dA3 (getPathL bs).hash.length dC3) := heap_cell Xd14.out 4
  have cd5 : (w6.alloc (.cells #[.slice hA0 (getPathL bs).enc.length hC0, .slice hA1 (getPathL bs).sig.length hC1, .slice hA2 (getPathL bs).name.length hC2, .int .i64 (getPathL bs).src, .slice hA3 (getPathL bs).hash.length hC3, .slice hA4 (getPathL bs).sgn.length hC4, .slice hA5 (getPathS bs).length hC5] 27)).cell? ⟨w5.heap.size, 5, none⟩ = some (.slice dA4 (getPathL bs).sgn.length dC4) := heap_cell Xd14.out 5
  have cd6 : (w6.alloc (.cells #[.slice hA0 (getPathL bs).enc.length hC0, .slice hA1 (getPathL bs).sig.length hC1, .slice hA2 (getPathL bs).name.length hC2, .int .i64 (getPathL bs).src, .slice hA3 (getPathL bs).hash.length hC3, .slice hA4 (getPathL bs).sgn.length hC4, .slice hA5 (getPathS bs).length hC5] 27)).cell? ⟨w5.heap.size, 6, none⟩ = some (.slice dA5 (getPathS bs).length dC5) := heap_cell Xd14.out 6
  have ch0 : (w6.alloc (.cells #[.slice hA0 (getPathL bs).enc.length hC0, .slice hA1 (getPathL bs).sig.length hC1, .slice hA2 (getPathL bs).name.length hC2, .int .i64 (getPathL bs).src, .slice hA3 (getPathL bs).hash.length hC3, .slice hA4 (getPathL bs).sgn.length hC4, .slice hA5 (getPathS bs).length hC5] 27)).cell? ⟨w6.heap.size, 0, none⟩ = some (.slice hA0 (getPathL bs).enc.length hC0) := heap_cell Nh.out 0
  have ch1 : (w6.alloc (.cells #[.slice hA0 (getPathL bs).enc.length hC0, .slice hA1 (getPathL bs).sig.length hC1, .slice hA2 (getPathL bs).name.length hC2, .int .i64 (getPathL bs).src, .slice hA3 (getPathL bs).hash.length hC3, .slice hA4 (getPathL bs).sgn.length hC4, .slice hA5 (getPathS bs).length hC5] 27)).cell? ⟨w6.heap.size, 1, none⟩ = some (.slice hA1 (getPathL bs).sig.length hC1) := heap_cell Nh.out 1
  have ch2 : (w6.alloc (.cells #[.slice hA0 (getPathL bs).enc.length hC0, .slice hA1 (getPathL bs).sig.length hC1, .slice hA2 (getPathL bs).name.length hC2, .int .i64 (getPathL bs).src, .slice hA3 (getPathL bs).hash.length hC3, .slice hA4 (getPathL bs).sgn.length hC4, .slice hA5 (getPathS bs).length hC5] 27)).cell? ⟨w6.heap.size, 2, none⟩ = some (.slice hA2 (getPathL bs).name.length hC2) := heap_cell Nh.out 2
  have ch3 : (w6.alloc (.cells #[.slice hA0 (getPathL bs).enc.length hC0, .slice hA1 (getPathL bs).sig.length hC1, .slice hA2 (getPathL bs).name.length hC2, .int .i64 (getPathL bs).src, .slice hA3 (getPathL bs).hash.length hC3, .slice hA4 (getPathL bs).sgn.length hC4, .slice hA5 (getPathS bs).length hC5] 27)).cell? ⟨w6.heap.size, 3, none⟩ = some (.int .i64 (getPathL bs).src) := heap_cell Nh.out 3
  have ch4 : (w6.alloc (.cells #[.slice hA0 (getPathL bs).enc.length hC0, .slice hA1 (getPathL bs).sig.length hC1, .slice hA2 (getPathL bs).name.length hC2, .int .i64 (getPathL bs).src, .slice hA3 (getPathL bs).hash.length hC3, .slice hA4 (getPathL bs).sgn.length hC4, .slice hA5 (getPathS bs).length hC5] 27)).cell? ⟨w6.heap.size, 4, none⟩ = some (.slice hA3 (getPathL bs).hash.length hC3) := heap_cell Nh.out 4
  have ch5 : (w6.alloc (.cells #[.slice hA0 (getPathL bs).enc.length hC0, .slice hA1 (getPathL bs).sig.length hC1, .slice hA2 (getPathL bs).name.length hC2, .int .i64 (getPathL bs).src, .slice hA3 (getPathL bs).hash.length hC3, .slice hA4 (getPathL bs).sgn.length hC4, .slice hA5 (getPathS bs).length hC5] 27)).cell? ⟨w6.heap.size, 5, none⟩ = some (.slice hA4 (getPathL bs).sgn.length hC4) := heap_cell Nh.out 5
  have ch6 : (w6.alloc (.cells #[.slice hA0 (getPathL bs).enc.length hC0, .slice hA1 (getPathL bs).sig.length hC1, .slice hA2 (getPathL bs).name.length hC2, .int .i64 (getPathL bs).src, .slice hA3 (getPathL bs).hash.length hC3, .slice hA4 (getPathL bs).sgn.length hC4, .slice hA5 (getPathS bs).length hC5] 27)).cell? ⟨w6.heap.size, 6, none⟩ = some (.slice hA5 (getPathS bs).length hC5) := heap_cell Nh.out 6
  go_wp2_with fail
  refine (samePath_any Vd14.out Vh14.out).mono ?_
  rintro en w8 ⟨rfl, k8⟩
  clear cd0 cd1 cd2 cd3 cd4 cd5 cd6
  clear ch0 ch1 ch2 ch3 ch4 ch5 ch6
  have K15 := Lib.hid (K14.out.trans k8)
  have Xp15 := Lib.hid (Kp.obj k8 Xp14.out (by simp))
  have Xx15 := Lib.hid (Kp.obj k8 Xx14.out (by simp))
  have Xd15 := Lib.hid (Kp.obj k8 Xd14.out (by simp))
  have Xh15 := Lib.hid (Kp.obj k8 Nh.out (by simp))
  have Vp15 := Lib.hid (Vp14.out.kp k8)
  have Vx15 := Lib.hid (Vx14.out.kp k8)
  have Vd15 := Lib.hid (Vd14.out.kp k8)
  have Vh15 := Lib.hid (Vh14.out.kp k8)
  have Yb15 := Lib.hid (Yb14.out.kp k8)
  have Yt15 := Lib.hid (Yt14.out.kp k8)
  have Ya15 := Lib.hid (Ya14.out.kp k8)
  have Yc15 := Lib.hid (Yc14.out.kp k8)
  clear k8
  go_wp2_with fail
  refine (num_any _ _).mono ?_
  rintro en w' ⟨rfl, rfl⟩
  have cx0 : w8.cell? ⟨w2.heap.size, 0, none⟩ = some (.slice xA0 l.enc.length xC0) := heap_cell Xx15.out 0
  have cx1 : w8.cell? ⟨w2.heap.size, 1, none⟩ = some (.slice xA1 l.sig.length xC1) := heap_cell Xx15.out 1
  have cx2 : w8.cell? ⟨w2.heap.size, 2, none⟩ = some (.slice xA2 l.name.length xC2) := heap_cell Xx15.out 2
  have cx3 : w8.cell? ⟨w2.heap.size, 3, none⟩ = some (.int .i64 l.src) := heap_cell Xx15.out 3
  have cx4 : w8.cell? ⟨w2.heap.size, 4, none⟩ = some (.slice xA3 l.hash.length xC3) := heap_cell Xx15.out 4
  have cx5 : w8.cell? ⟨w2.heap.size, 5, none⟩ = some (.slice xA4 l.sgn.length xC4) := heap_cell Xx15.out 5
  have cx6 : w8.cell? ⟨w2.heap.size, 6, none⟩ = some (.slice xA5 ss.length xC5) := heap_cell Xx15.out 6
  have cp0 : w8.cell? ⟨w.heap.size, 0, none⟩ = some (.slice pA0 l.enc.length pC0) := heap_cell Xp15.out 0
  have cp1 : w8.cell? ⟨w.heap.size, 1, none⟩ = some (.slice pA1 l.sig.length pC1) := heap_cell Xp15.out 1
  have cp2 : w8.cell? ⟨w.heap.size, 2, none⟩ = some (.slice pA2 l.name.length pC2) := heap_cell Xp15.out 2
  have cp3 : w8.cell? ⟨w.heap.size, 3, none⟩ = some (.int .i64 l.src) := heap_cell Xp15.out 3
  have cp4 : w8.cell? ⟨w.heap.size, 4, none⟩ = some (.slice pA3 l.hash.length pC3) := heap_cell Xp15.out 4
  have cp5 : w8.cell? ⟨w.heap.size, 5, none⟩ = some (.slice pA4 l.sgn.length pC4) := heap_cell Xp15.out 5
  have cp6 : w8.cell? ⟨w.heap.size, 6, none⟩ = some (.slice pA5 ss.length pC5) := heap_cell Xp15.out 6
  go_wp2_with fail
  refine (samePath_any Vx15.out Vp15.out).mono ?_
  rintro en w9 ⟨rfl, k9⟩
  clear cx0 cx1 cx2 cx3 cx4 cx5 cx6
  clear cp0 cp1 cp2 cp3 cp4 cp5 cp6
  have K16 := Lib.hid (K15.out.trans k9)
  have Xp16 := Lib.hid (Kp.obj k9 Xp15.out (by simp))
  have Xx16 := Lib.hid (Kp.obj k9 Xx15.out (by simp))
  have Xd16 := Lib.hid (Kp.obj k9 Xd15.out (by simp))
  have Xh16 := Lib.hid (Kp.obj k9 Xh15.out (by simp))
  have Vp16 := Lib.hid (Vp15.out.kp k9)
  have Vx16 := Lib.hid (Vx15.out.kp k9)
  have Vd16 := Lib.hid (Vd15.out.kp k9)
  have Vh16 := Lib.hid (Vh15.out.kp k9)
  have Yb16 := Lib.hid (Yb15.out.kp k9)
  have Yt16 := Lib.hid (Yt15.out.kp k9)
  have Ya16 := Lib.hid (Ya15.out.kp k9)
  have Yc16 := Lib.hid (Yc15.out.kp k9)
  clear k9
  go_wp2_with fail
  refine (stays_any Yt16.out Yb16.out HBl.out).mono ?_
  rintro en w10 ⟨rfl, k10⟩
  have K17 := Lib.hid (K16.out.trans k10)
  have Xp17 := Lib.hid (Kp.obj k10 Xp16.out (by simp))
  have Xx17 := Lib.hid (Kp.obj k10 Xx16.out (by simp))
  have Xd17 := Lib.hid (Kp.obj k10 Xd16.out (by simp))
  have Xh17 := Lib.hid (Kp.obj k10 Xh16.out (by simp))
  have Vp17 := Lib.hid (Vp16.out.kp k10)
  have Vx17 := Lib.hid (Vx16.out.kp k10)
  have Vd17 := Lib.hid (Vd16.out.kp k10)
  have Vh17 := Lib.hid (Vh16.out.kp k10)
  have Yb17 := Lib.hid (Yb16.out.kp k10)
  have Yt17 := Lib.hid (Yt16.out.kp k10)
  have Ya17 := Lib.hid (Ya16.out.kp k10)
  have Yc17 := Lib.hid (Yc16.out.kp k10)
  clear k10
  go_wp2_with fail
  refine (num_any _ _).mono ?_
  rintro en w' ⟨rfl, rfl⟩
  go_wp2_with fail
  refine (num_any _ _).mono ?_
  rintro en w' ⟨rfl, rfl⟩
  have cd0 : w10.cell? ⟨w5.heap.size, 0, none⟩ = some (.slice dA0 (getPathL bs).enc.length dC0) := heap_cell Xd17.out 0
  have cd1 : w10.cell? ⟨w5.heap.size, 1, none⟩ = some (.slice dA1 (getPathL bs).sig.length dC1) := heap_cell Xd17.out 1
  have cd2 : w10.cell? ⟨w5.heap.size, 2, none⟩ = some (.slice dA2 (getPathL bs).name.length dC2) := heap_cell Xd17.out 2
  have cd3 : w10.cell? ⟨w5.heap.size, 3, none⟩ = some (.int .i64 (getPathL bs).src) := heap_cell Xd17.out 3
  have cd4 : w10.cell? ⟨w5.heap.size, 4, none⟩ = some (.slice dA3 (getPathL bs).hash.length dC3) := heap_cell Xd17.out 4
  have cd5 : w10.cell? ⟨w5.heap.size, 5, none⟩ = some (.slice dA4 (getPathL bs).sgn.length dC4) := heap_cell Xd17.out 5
  have cd6 : w10.cell? ⟨w5.heap.size, 6, none⟩ = some (.slice dA5 (getPathS bs).length dC5) := heap_cell Xd17.out 6
  go_wp2_with fail
  have hq17 := putOne Vd17.out
  rw [HF1.out] at hq17
  simp only [if_true] at hq17
  rw [HF2.out] at hq17
  refine (hq17).mono ?_
  rintro en w17 ⟨fA, fC, rfl, k17, bf⟩
  clear cd0 cd1 cd2 cd3 cd4 cd5 cd6
  have K18 := Lib.hid (K17.out.trans k17)
  have Xp18 := Lib.hid (Kp.obj k17 Xp17.out (by simp))
  have Xx18 := Lib.hid (Kp.obj k17 Xx17.out (by simp))
  have Xd18 := Lib.hid (Kp.obj k17 Xd17.out (by simp))
  have Xh18 := Lib.hid (Kp.obj k17 Xh17.out (by simp))
  have Vp18 := Lib.hid (Vp17.out.kp k17)
  have Vx18 := Lib.hid (Vx17.out.kp k17)
  have Vd18 := Lib.hid (Vd17.out.kp k17)
  have Vh18 := Lib.hid (Vh17.out.kp k17)
  have Yb18 := Lib.hid (Yb17.out.kp k17)
  have Yt18 := Lib.hid (Yt17.out.kp k17)
  have Ya18 := Lib.hid (Ya17.out.kp k17)
  have Yc18 := Lib.hid (Yc17.out.kp k17)
  have HBf := Lib.hid bf
  clear k17 bf hq17
  have cv1 := bs_string HBf.out
  have cv2 := bs_string Yb18.out
  go_wp2_with fail
  refine (num_any _ _).mono ?_
  rintro en w' ⟨rfl, rfl⟩
  go_wp2_with fail
  clear cv1 cv2
  refine (knows_any _).mono ?_
  rintro en w19 ⟨rfl, k19⟩
  go_wp2
  go_ret
  exact ⟨rfl, K18.out.trans k19⟩

set_option maxRecDepth 100000 in
set_option maxHeartbeats 8000000 in
theorem pb_f1 {w : World} {vb : Value} {pA0 pA1 pA2 pA3 pA4 pA5 : Option Addr} {pC0 pC1 pC2 pC3 pC4 pC5 : Nat} {l : LeafD} {ss : List StepD} {bs : List UInt8} (hp : PathV w (.agg #[.slice pA0 l.enc.length pC0, .slice pA1 l.sig.length pC1, .slice pA2 l.name.length pC2, .int .i64 l.src, .slice pA3 l.hash.length pC3, .slice pA4 l.sgn.length pC4, .slice pA5 ss.length pC5]) l ss) (hb : Bs w vb bs) (hm : PathSmall l ss) (hl : bs.length ≤ 2097152) (hr : rightP l ss = false) (he : getPathE bs = 21) :
    Calls Tryd.prog 3 #[.agg #[.slice pA0 l.enc.length pC0, .slice pA1 l.sig.length pC1, .slice pA2 l.name.length pC2, .int .i64 l.src, .slice pA3 l.hash.length pC3, .slice pA4 l.sgn.length pC4, .slice pA5 ss.length pC5], vb] w fun e w' => e = .returned (.bool true) ∧ Kp [] w w' := by
  have HP := Lib.hid hp
  have HB := Lib.hid hb
  have HM := Lib.hid hm
  have HBl := Lib.hid (show bs.length ≤ 35184372088832 by omega)
  have HBL := Lib.hid (show bs.length ≤ 1099511627776 by omega)
  have HR := Lib.hid hr
  have HE := Lib.hid he
  obtain ⟨ys, hys⟩ : ∃ ys, ys = ([] : List UInt8) := ⟨_, rfl⟩
  have HYs := Lib.hid hys
  clear hp hb hm hl hr he hys
  go_enter Tryd.func3, Tryd.ntmps3
  have KA1 := Lib.hid ((Kp.refl [] w).alloc (.cells #[.slice pA0 l.enc.length pC0, .slice pA1 l.sig.length pC1, .slice pA2 l.name.length pC2, .int .i64 l.src, .slice pA3 l.hash.length pC3, .slice pA4 l.sgn.length pC4, .slice pA5 ss.length pC5] 27))
  have K2 := Lib.hid (KA1.out)
  have Vp2 := Lib.hid (HP.out.kp KA1.out)
  have Yb2 := Lib.hid (HB.out.kp KA1.out)
  have Np := Lib.hid (heap_alloc_new w (.cells #[.slice pA0 l.enc.length pC0, .slice pA1 l.sig.length pC1, .slice pA2 l.name.length pC2, .int .i64 l.src, .slice pA3 l.hash.length pC3, .slice pA4 l.sgn.length pC4, .slice pA5 ss.length pC5] 27))
  go_wp2_with fail
  refine (lent_any Yb2.out HBl.out).mono ?_
  rintro en w1 ⟨tA, tC, rfl, k1, lv1⟩
  have K3 := Lib.hid (K2.out.trans k1)
  have Xp3 := Lib.hid (Kp.obj k1 Np.out (by simp))
  have Vp3 := Lib.hid (Vp2.out.kp k1)
  have Yb3 := Lib.hid (Yb2.out.kp k1)
  have HT := Lib.hid lv1
  clear k1 lv1
  have cp0 : w1.cell? ⟨w.heap.size, 0, none⟩ = some (.slice pA0 l.enc.length pC0) := heap_cell Xp3.out 0
  have cp1 : w1.cell? ⟨w.heap.size, 1, none⟩ = some (.slice pA1 l.sig.length pC1) := heap_cell Xp3.out 1
  have cp2 : w1.cell? ⟨w.heap.size, 2, none⟩ = some (.slice pA2 l.name.length pC2) := heap_cell Xp3.out 2
  have cp3 : w1.cell? ⟨w.heap.size, 3, none⟩ = some (.int .i64 l.src) := heap_cell Xp3.out 3
  have cp4 : w1.cell? ⟨w.heap.size, 4, none⟩ = some (.slice pA3 l.hash.length pC3) := heap_cell Xp3.out 4
  have cp5 : w1.cell? ⟨w.heap.size, 5, none⟩ = some (.slice pA4 l.sgn.length pC4) := heap_cell Xp3.out 5
  have cp6 : w1.cell? ⟨w.heap.size, 6, none⟩ = some (.slice pA5 ss.length pC5) := heap_cell Xp3.out 6
  go_wp2_with fail
  refine (lawPath_any Vp3.out HM.out).mono ?_
  rintro en w2 ⟨u, rfl, hu, k2⟩
  have HXu := Lib.hid hu.read
  obtain ⟨xA0, xA1, xA2, xA3, xA4, xA5, xC0, xC1, xC2, xC3, xC4, xC5, rfl, -⟩ := hu
  simp only [pathCells] at HXu
  clear cp0 cp1 cp2 cp3 cp4 cp5 cp6
  have K4 := Lib.hid (K3.out.trans k2)
  have Xp4 := Lib.hid (Kp.obj k2 Xp3.out (by simp))
  have Vp4 := Lib.hid (Vp3.out.kp k2)
  have Yb4 := Lib.hid (Yb3.out.kp k2)
  have Yt4 := Lib.hid (HT.out.kp k2)
  clear k2
  have KA5 := Lib.hid ((Kp.refl [] w2).alloc (.cells #[.slice xA0 l.enc.length xC0, .slice xA1 l.sig.length xC1, .slice xA2 l.name.length xC2, .int .i64 l.src, .slice xA3 l.hash.length xC3, .slice xA4 l.sgn.length xC4, .slice xA5 ss.length xC5] 32))
  have K6 := Lib.hid (K4.out.trans KA5.out)
  have Xp6 := Lib.hid (Kp.obj KA5.out Xp4.out (by simp))
  have Vp6 := Lib.hid (Vp4.out.kp KA5.out)
  have Vx6 := Lib.hid (HXu.out.kp KA5.out)
  have Yb6 := Lib.hid (Yb4.out.kp KA5.out)
  have Yt6 := Lib.hid (Yt4.out.kp KA5.out)
  have Nx := Lib.hid (heap_alloc_new w2 (.cells #[.slice xA0 l.enc.length xC0, .slice xA1 l.sig.length xC1, .slice xA2 l.name.length xC2, .int .i64 l.src, .slice xA3 l.hash.length xC3, .slice xA4 l.sgn.length xC4, .slice xA5 ss.length xC5] 32))
  unfold pathCells
  go_wp2_with fail
  have hq3 := putOne Vx6.out
  rw [HR.out] at hq3
  simp only [Bool.false_eq_true, if_false] at hq3
  rw [← HYs.out] at hq3
  refine (hq3).mono ?_
  rintro en w3 ⟨aA, aC, rfl, k3, ba⟩
  have K7 := Lib.hid (K6.out.trans k3)
  have Xp7 := Lib.hid (Kp.obj k3 Xp6.out (by simp))
  have Xx7 := Lib.hid (Kp.obj k3 Nx.out (by simp))
  have Vp7 := Lib.hid (Vp6.out.kp k3)
  have Vx7 := Lib.hid (Vx6.out.kp k3)
  have Yb7 := Lib.hid (Yb6.out.kp k3)
  have Yt7 := Lib.hid (Yt6.out.kp k3)
  have HBa := Lib.hid ba
  clear k3 ba hq3
  have cp0 : w3.cell? ⟨w.heap.size, 0, none⟩ = some (.slice pA0 l.enc.length pC0) := heap_cell Xp7.out 0
  have cp1 : w3.cell? ⟨w.heap.size, 1, none⟩ = some (.slice pA1 l.sig.length pC1) := heap_cell Xp7.out 1
  have cp2 : w3.cell? ⟨w.heap.size, 2, none⟩ = some (.slice pA2 l.name.length pC2) := heap_cell Xp7.out 2
  have cp3 : w3.cell? ⟨w.heap.size, 3, none⟩ = some (.int .i64 l.src) := heap_cell Xp7.out 3
  have cp4 : w3.cell? ⟨w.heap.size, 4, none⟩ = some (.slice pA3 l.hash.length pC3) := heap_cell Xp7.out 4
  have cp5 : w3.cell? ⟨w.heap.size, 5, none⟩ = some (.slice pA4 l.sgn.length pC4) := heap_cell Xp7.out 5
  have cp6 : w3.cell? ⟨w.heap.size, 6, none⟩ = some (.slice pA5 ss.length pC5) := heap_cell Xp7.out 6
  go_wp2_with fail
  have hq4 := rputOne Vp7.out
  rw [HR.out] at hq4
  simp only [Bool.false_eq_true, if_false] at hq4
  rw [← HYs.out] at hq4
  refine (hq4).mono ?_
  rintro en w4 ⟨cA, cC, rfl, k4, bc⟩
  clear cp0 cp1 cp2 cp3 cp4 cp5 cp6
  have K8 := Lib.hid (K7.out.trans k4)
  have Xp8 := Lib.hid (Kp.obj k4 Xp7.out (by simp))
  have Xx8 := Lib.hid (Kp.obj k4 Xx7.out (by simp))
  have Vp8 := Lib.hid (Vp7.out.kp k4)
  have Vx8 := Lib.hid (Vx7.out.kp k4)
  have Yb8 := Lib.hid (Yb7.out.kp k4)
  have Yt8 := Lib.hid (Yt7.out.kp k4)
  have Ya8 := Lib.hid (HBa.out.kp k4)
  have HBc := Lib.hid bc
  clear k4 bc hq4
  go_wp2_with fail
  have hq5 := getOne Yt8.out.bs' HBL.out
  rw [HE.out] at hq5
  refine (hq5).mono ?_
  rintro en w5 ⟨dA0, dA1, dA2, dA3, dA4, dA5, dC0, dC1, dC2, dC3, dC4, dC5, rfl, pd, k5⟩
  have K9 := Lib.hid (K8.out.trans k5)
  have Xp9 := Lib.hid (Kp.obj k5 Xp8.out (by simp))
  have Xx9 := Lib.hid (Kp.obj k5 Xx8.out (by simp))
  have Vp9 := Lib.hid (Vp8.out.kp k5)
  have Vx9 := Lib.hid (Vx8.out.kp k5)
  have Yb9 := Lib.hid (Yb8.out.kp k5)
  have Yt9 := Lib.hid (Yt8.out.kp k5)
  have Ya9 := Lib.hid (Ya8.out.kp k5)
  have Yc9 := Lib.hid (HBc.out.kp k5)
  have HPd := Lib.hid pd
  clear k5 pd hq5
  have KA10 := Lib.hid ((Kp.refl [] w5).alloc (.cells #[.slice dA0 (getPathL bs).enc.length dC0, .slice dA1 (getPathL bs).sig.length dC1, .slice dA2 (getPathL bs).name.length dC2, .int .i64 (getPathL bs).src, .slice dA3 (getPathL bs).hash.length dC3, .slice dA4 (getPathL bs).sgn.length dC4, .slice dA5 (getPathS bs).length dC5] 32))
  have K11 := Lib.hid (K9.out.trans KA10.out)
  have Xp11 := Lib.hid (Kp.obj KA10.out Xp9.out (by simp))
  have Xx11 := Lib.hid (Kp.obj KA10.out Xx9.out (by simp))
  have Vp11 := Lib.hid (Vp9.out.kp KA10.out)
  have Vx11 := Lib.hid (Vx9.out.kp KA10.out)
  have Vd11 := Lib.hid (HPd.out.kp KA10.out)
  have Yb11 := Lib.hid (Yb9.out.kp KA10.out)
  have Yt11 := Lib.hid (Yt9.out.kp KA10.out)
  have Ya11 := Lib.hid (Ya9.out.kp KA10.out)
  have Yc11 := Lib.hid (Yc9.out.kp KA10.out)
  have Nd := Lib.hid (heap_alloc_new w5 (.cells #[.slice dA0 (getPathL bs).enc.length dC0, .slice dA1 (getPathL bs).sig.length dC1, .slice dA2 (getPathL bs).name.length dC2, .int .i64 (getPathL bs).src, .slice dA3 (getPathL bs).hash.length dC3, .slice dA4 (getPathL bs).sgn.length dC4, .slice dA5 (getPathS bs).length dC5] 32))
  go_wp2_with fail
  have hq6 := rgetOne Yb11.out HBL.out
  rw [HE.out] at hq6
  refine (hq6).mono ?_
  rintro en w6 ⟨hA0, hA1, hA2, hA3, hA4, hA5, hC0, hC1, hC2, hC3, hC4, hC5, rfl, ph, k6⟩
  have K12 := Lib.hid (K11.out.trans k6)
  have Xp12 := Lib.hid (Kp.obj k6 Xp11.out (by simp))
  have Xx12 := Lib.hid (Kp.obj k6 Xx11.out (by simp))
  have Xd12 := Lib.hid (Kp.obj k6 Nd.out (by simp))
  have Vp12 := Lib.hid (Vp11.out.kp k6)
  have Vx12 := Lib.hid (Vx11.out.kp k6)
  have Vd12 := Lib.hid (Vd11.out.kp k6)
  have Yb12 := Lib.hid (Yb11.out.kp k6)
  have Yt12 := Lib.hid (Yt11.out.kp k6)
  have Ya12 := Lib.hid (Ya11.out.kp k6)
  have Yc12 := Lib.hid (Yc11.out.kp k6)
  have HPh := Lib.hid ph
  clear k6 ph hq6
  have KA13 := Lib.hid ((Kp.refl [] w6).alloc (.cells #[.slice hA0 (getPathL bs).enc.length hC0, .slice hA1 (getPathL bs).sig.length hC1, .slice hA2 (getPathL bs).name.length hC2, .int .i64 (getPathL bs).src, .slice hA3 (getPathL bs).hash.length hC3, .slice hA4 (getPathL bs).sgn.length hC4, .slice hA5 (getPathS bs).length hC5] 27))
  have K14 := Lib.hid (K12.out.trans KA13.out)
  have Xp14 := Lib.hid (Kp.obj KA13.out Xp12.out (by simp))
  have Xx14 := Lib.hid (Kp.obj KA13.out Xx12.out (by simp))
  have Xd14 := Lib.hid (Kp.obj KA13.out Xd12.out (by simp))
  have Vp14 := Lib.hid (Vp12.out.kp KA13.out)
  have Vx14 := Lib.hid (Vx12.out.kp KA13.out)
  have Vd14 := Lib.hid (Vd12.out.kp KA13.out)
  have Vh14 := Lib.hid (HPh.out.kp KA13.out)
  have Yb14 := Lib.hid (Yb12.out.kp KA13.out)
  have Yt14 := Lib.hid (Yt12.out.kp KA13.out)
  have Ya14 := Lib.hid (Ya12.out.kp KA13.out)
  have Yc14 := Lib.hid (Yc12.out.kp KA13.out)
  have Nh := Lib.hid (heap_alloc_new w6 (.cells #[.slice hA0 (getPathL bs).enc.length hC0, .slice hA1 (getPathL bs).sig.length hC1, .slice hA2 (getPathL bs).name.length hC2, .int .i64 (getPathL bs).src, .slice hA3 (getPathL bs).hash.length hC3, .slice hA4 (getPathL bs).sgn.length hC4, .slice hA5 (getPathS bs).length hC5] 27))
  have cv1 := bs_string Ya14.out
  have cv2 := bs_string Yc14.out
  go_wp2_with fail
  refine (num_any _ _).mono ?_
  rintro en w' ⟨rfl, rfl⟩
  clear cv1 cv2
  have cd0 : (w6.alloc (.cells #[.slice hA0 (getPathL bs).enc.length hC0, .slice hA1 (getPathL bs).sig.length hC1, .slice hA2 (getPathL bs).name.length hC2, .int .i64 (getPathL bs).src, .slice hA3 (getPathL bs).hash.length hC3, .slice hA4 (getPathL bs).sgn.length hC4, .slice hA5 (getPathS bs).length hC5] 27)).cell? ⟨w5.heap.size, 0, none⟩ = some (.slice dA0 (getPathL bs).enc.length dC0) := heap_cell Xd14.out 0
  have cd1 : (w6.alloc (.cells #[.slice hA0 (getPathL bs).enc.length hC0, .slice hA1 (getPathL bs).sig.length hC1, .slice hA2 (getPathL bs).name.length hC2, .int .i64 (getPathL bs).src, .slice hA3 (getPathL bs).hash.length hC3, .slice hA4 (getPathL bs).sgn.length hC4, .slice hA5 (getPathS bs).length hC5] 27)).cell? ⟨w5.heap.size, 1, none⟩ = some (.slice dA1 (getPathL bs).sig.length dC1) := heap_cell Xd14.out 1
  have cd2 : (w6.alloc (.cells #[.slice hA0 (getPathL bs).enc.length hC0, .slice hA1 (getPathL bs).sig.length hC1, .slice hA2 (getPathL bs).name.length hC2, .int .i64 (getPathL bs).src, .slice hA3 (getPathL bs).hash.length hC3, .slice hA4 (getPathL bs).sgn.length hC4, .slice hA5 (getPathS bs).length hC5] 27)).cell? ⟨w5.heap.size, 2, none⟩ = some (.slice dA2 (getPathL bs).name.length dC2) := heap_cell Xd14.out 2
  have cd3 : (w6.alloc (.cells #[.slice hA0 (getPathL bs).enc.length hC0, .slice hA1 (getPathL bs).sig.length hC1, .slice hA2 (getPathL bs).name.length hC2, .int .i64 (getPathL bs).src, .slice hA3 (getPathL bs).hash.length hC3, .slice hA4 (getPathL bs).sgn.length hC4, .slice hA5 (getPathS bs).length hC5] 27)).cell? ⟨w5.heap.size, 3, none⟩ = some (.int .i64 (getPathL bs).src) := heap_cell Xd14.out 3
  have cd4 : (w6.alloc (.cells #[.slice hA0 (getPathL bs).enc.length hC0, .slice hA1 (getPathL bs).sig.length hC1, .slice hA2 (getPathL bs).name.length hC2, .int .i64 (getPathL bs).src, .slice hA3 (getPathL bs).hash.length hC3, .slice hA4 (getPathL bs).sgn.length hC4, .slice hA5 (getPathS bs).length hC5] 27)).cell? ⟨w5.heap.size, 4, none⟩ = some (.slice dA3 (getPathL bs).hash.length dC3) := heap_cell Xd14.out 4
  have cd5 : (w6.alloc (.cells #[.slice hA0 (getPathL bs).enc.length hC0, .slice hA1 (getPathL bs).sig.length hC1, .slice hA2 (getPathL bs).name.length hC2, .int .i64 (getPathL bs).src, .slice hA3 (getPathL bs).hash.length hC3, .slice hA4 (getPathL bs).sgn.length hC4, .slice hA5 (getPathS bs).length hC5] 27)).cell? ⟨w5.heap.size, 5, none⟩ = some (.slice dA4 (getPathL bs).sgn.length dC4) := heap_cell Xd14.out 5
  have cd6 : (w6.alloc (.cells #[.slice hA0 (getPathL bs).enc.length hC0, .slice hA1 (getPathL bs).sig.length hC1, .slice hA2 (getPathL bs).name.length hC2, .int .i64 (getPathL bs).src, .slice hA3 (getPathL bs).hash.length hC3, .slice hA4 (getPathL bs).sgn.length hC4, .slice hA5 (getPathS bs).length hC5] 27)).cell? ⟨w5.heap.size, 6, none⟩ = some (.slice dA5 (getPathS bs).length dC5) := heap_cell Xd14.out 6
  have ch0 : (w6.alloc (.cells #[.slice hA0 (getPathL bs).enc.length hC0, .slice hA1 (getPathL bs).sig.length hC1, .slice hA2 (getPathL bs).name.length hC2, .int .i64 (getPathL bs).src, .slice hA3 (getPathL bs).hash.length hC3, .slice hA4 (getPathL bs).sgn.length hC4, .slice hA5 (getPathS bs).length hC5] 27)).cell? ⟨w6.heap.size, 0, none⟩ = some (.slice hA0 (getPathL bs).enc.length hC0) := heap_cell Nh.out 0
  have ch1 : (w6.alloc (.cells #[.slice hA0 (getPathL bs).enc.length hC0, .slice hA1 (getPathL bs).sig.length hC1, .slice hA2 (getPathL bs).name.length hC2, .int .i64 (getPathL bs).src, .slice hA3 (getPathL bs).hash.length hC3, .slice hA4 (getPathL bs).sgn.length hC4, .slice hA5 (getPathS bs).length hC5] 27)).cell? ⟨w6.heap.size, 1, none⟩ = some (.slice hA1 (getPathL bs).sig.length hC1) := heap_cell Nh.out 1
  have ch2 : (w6.alloc (.cells #[.slice hA0 (getPathL bs).enc.length hC0, .slice hA1 (getPathL bs).sig.length hC1, .slice hA2 (getPathL bs).name.length hC2, .int .i64 (getPathL bs).src, .slice hA3 (getPathL bs).hash.length hC3, .slice hA4 (getPathL bs).sgn.length hC4, .slice hA5 (getPathS bs).length hC5] 27)).cell? ⟨w6.heap.size, 2, none⟩ = some (.slice hA2 (getPathL bs).name.length hC2) := heap_cell Nh.out 2
  have ch3 : (w6.alloc (.cells #[.slice hA0 (getPathL bs).enc.length hC0, .slice hA1 (getPathL bs).sig.length hC1, .slice hA2 (getPathL bs).name.length hC2, .int .i64 (getPathL bs).src, .slice hA3 (getPathL bs).hash.length hC3, .slice hA4 (getPathL bs).sgn.length hC4, .slice hA5 (getPathS bs).length hC5] 27)).cell? ⟨w6.heap.size, 3, none⟩ = some (.int .i64 (getPathL bs).src) := heap_cell Nh.out 3
  have ch4 : (w6.alloc (.cells #[.slice hA0 (getPathL bs).enc.length hC0, .slice hA1 (getPathL bs).sig.length hC1, .slice hA2 (getPathL bs).name.length hC2, .int .i64 (getPathL bs).src, .slice hA3 (getPathL bs).hash.length hC3, .slice hA4 (getPathL bs).sgn.length hC4, .slice hA5 (getPathS bs).length hC5] 27)).cell? ⟨w6.heap.size, 4, none⟩ = some (.slice hA3 (getPathL bs).hash.length hC3) := heap_cell Nh.out 4
  have ch5 : (w6.alloc (.cells #[.slice hA0 (getPathL bs).enc.length hC0, .slice hA1 (getPathL bs).sig.length hC1, .slice hA2 (getPathL bs).name.length hC2, .int .i64 (getPathL bs).src, .slice hA3 (getPathL bs).hash.length hC3, .slice hA4 (getPathL bs).sgn.length hC4, .slice hA5 (getPathS bs).length hC5] 27)).cell? ⟨w6.heap.size, 5, none⟩ = some (.slice hA4 (getPathL bs).sgn.length hC4) := heap_cell Nh.out 5
  have ch6 : (w6.alloc (.cells #[.slice hA0 (getPathL bs).enc.length hC0, .slice hA1 (getPathL bs).sig.length hC1, .slice hA2 (getPathL bs).name.length hC2, .int .i64 (getPathL bs).src, .slice hA3 (getPathL bs).hash.length hC3, .slice hA4 (getPathL bs).sgn.length hC4, .slice hA5 (getPathS bs).length hC5] 27)).cell? ⟨w6.heap.size, 6, none⟩ = some (.slice hA5 (getPathS bs).length hC5) := heap_cell Nh.out 6
  go_wp2_with fail
  refine (samePath_any Vd14.out Vh14.out).mono ?_
  rintro en w8 ⟨rfl, k8⟩
  clear cd0 cd1 cd2 cd3 cd4 cd5 cd6
  clear ch0 ch1 ch2 ch3 ch4 ch5 ch6
  have K15 := Lib.hid (K14.out.trans k8)
  have Xp15 := Lib.hid (Kp.obj k8 Xp14.out (by simp))
  have Xx15 := Lib.hid (Kp.obj k8 Xx14.out (by simp))
  have Xd15 := Lib.hid (Kp.obj k8 Xd14.out (by simp))
  have Xh15 := Lib.hid (Kp.obj k8 Nh.out (by simp))
  have Vp15 := Lib.hid (Vp14.out.kp k8)
  have Vx15 := Lib.hid (Vx14.out.kp k8)
  have Vd15 := Lib.hid (Vd14.out.kp k8)
  have Vh15 := Lib.hid (Vh14.out.kp k8)
  have Yb15 := Lib.hid (Yb14.out.kp k8)
  have Yt15 := Lib.hid (Yt14.out.kp k8)
  have Ya15 := Lib.hid (Ya14.out.kp k8)
  have Yc15 := Lib.hid (Yc14.out.kp k8)
  clear k8
  go_wp2_with fail
  refine (num_any _ _).mono ?_
  rintro en w' ⟨rfl, rfl⟩
  have cx0 : w8.cell? ⟨w2.heap.size, 0, none⟩ = some (.slice xA0 l.enc.length xC0) := heap_cell Xx15.out 0
  have cx1 : w8.cell? ⟨w2.heap.size, 1, none⟩ = some (.slice xA1 l.sig.length xC1) := heap_cell Xx15.out 1
  have cx2 : w8.cell? ⟨w2.heap.size, 2, none⟩ = some (.slice xA2 l.name.length xC2) := heap_cell Xx15.out 2
  have cx3 : w8.cell? ⟨w2.heap.size, 3, none⟩ = some (.int .i64 l.src) := heap_cell Xx15.out 3
  have cx4 : w8.cell? ⟨w2.heap.size, 4, none⟩ = some (.slice xA3 l.hash.length xC3) := heap_cell Xx15.out 4
  have cx5 : w8.cell? ⟨w2.heap.size, 5, none⟩ = some (.slice xA4 l.sgn.length xC4) := heap_cell Xx15.out 5
  have cx6 : w8.cell? ⟨w2.heap.size, 6, none⟩ = some (.slice xA5 ss.length xC5) := heap_cell Xx15.out 6
  have cp0 : w8.cell? ⟨w.heap.size, 0, none⟩ = some (.slice pA0 l.enc.length pC0) := heap_cell Xp15.out 0
  have cp1 : w8.cell? ⟨w.heap.size, 1, none⟩ = some (.slice pA1 l.sig.length pC1) := heap_cell Xp15.out 1
  have cp2 : w8.cell? ⟨w.heap.size, 2, none⟩ = some (.slice pA2 l.name.length pC2) := heap_cell Xp15.out 2
  have cp3 : w8.cell? ⟨w.heap.size, 3, none⟩ = some (.int .i64 l.src) := heap_cell Xp15.out 3
  have cp4 : w8.cell? ⟨w.heap.size, 4, none⟩ = some (.slice pA3 l.hash.length pC3) := heap_cell Xp15.out 4
  have cp5 : w8.cell? ⟨w.heap.size, 5, none⟩ = some (.slice pA4 l.sgn.length pC4) := heap_cell Xp15.out 5
  have cp6 : w8.cell? ⟨w.heap.size, 6, none⟩ = some (.slice pA5 ss.length pC5) := heap_cell Xp15.out 6
  go_wp2_with fail
  refine (samePath_any Vx15.out Vp15.out).mono ?_
  rintro en w9 ⟨rfl, k9⟩
  clear cx0 cx1 cx2 cx3 cx4 cx5 cx6
  clear cp0 cp1 cp2 cp3 cp4 cp5 cp6
  have K16 := Lib.hid (K15.out.trans k9)
  have Xp16 := Lib.hid (Kp.obj k9 Xp15.out (by simp))
  have Xx16 := Lib.hid (Kp.obj k9 Xx15.out (by simp))
  have Xd16 := Lib.hid (Kp.obj k9 Xd15.out (by simp))
  have Xh16 := Lib.hid (Kp.obj k9 Xh15.out (by simp))
  have Vp16 := Lib.hid (Vp15.out.kp k9)
  have Vx16 := Lib.hid (Vx15.out.kp k9)
  have Vd16 := Lib.hid (Vd15.out.kp k9)
  have Vh16 := Lib.hid (Vh15.out.kp k9)
  have Yb16 := Lib.hid (Yb15.out.kp k9)
  have Yt16 := Lib.hid (Yt15.out.kp k9)
  have Ya16 := Lib.hid (Ya15.out.kp k9)
  have Yc16 := Lib.hid (Yc15.out.kp k9)
  clear k9
  go_wp2_with fail
  refine (stays_any Yt16.out Yb16.out HBl.out).mono ?_
  rintro en w10 ⟨rfl, k10⟩
  have K17 := Lib.hid (K16.out.trans k10)
  have Xp17 := Lib.hid (Kp.obj k10 Xp16.out (by simp))
  have Xx17 := Lib.hid (Kp.obj k10 Xx16.out (by simp))
  have Xd17 := Lib.hid (Kp.obj k10 Xd16.out (by simp))
  have Xh17 := Lib.hid (Kp.obj k10 Xh16.out (by simp))
  have Vp17 := Lib.hid (Vp16.out.kp k10)
  have Vx17 := Lib.hid (Vx16.out.kp k10)
  have Vd17 := Lib.hid (Vd16.out.kp k10)
  have Vh17 := Lib.hid (Vh16.out.kp k10)
  have Yb17 := Lib.hid (Yb16.out.kp k10)
  have Yt17 := Lib.hid (Yt16.out.kp k10)
  have Ya17 := Lib.hid (Ya16.out.kp k10)
  have Yc17 := Lib.hid (Yc16.out.kp k10)
  clear k10
  go_wp2_with fail
  refine (num_any _ _).mono ?_
  rintro en w' ⟨rfl, rfl⟩
  go_wp2_with fail
  refine (num_any _ _).mono ?_
  rintro en w' ⟨rfl, rfl⟩
  go_wp2_with fail
  refine (knows_any _).mono ?_
  rintro en w19 ⟨rfl, k19⟩
  go_wp2
  go_ret
  exact ⟨rfl, K17.out.trans k19⟩

end Go.Proofs.YtgmdcmkokdbeoaaDoor
