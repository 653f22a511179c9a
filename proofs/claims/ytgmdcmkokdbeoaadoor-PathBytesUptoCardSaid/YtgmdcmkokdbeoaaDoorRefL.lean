/- The leaf of the reference: GetLeaf, PutLeaf's looks. -/
import Derived.Test.YtgmdcmkokdbeoaaDoorRefK
set_option linter.unusedVariables false
set_option linter.unusedSimpArgs false
namespace Go.Proofs.YtgmdcmkokdbeoaaDoor
open Go.RowKit

/-- What the reference takes for a leaf. -/
def okLeafR (bs : List UInt8) : Prop := endOf (rdLeaf bs).2.1 (rdLeaf bs).2.2 = 0 ∧ rightL (rdLeaf bs).1
instance (bs : List UInt8) : Decidable (okLeafR bs) := by unfold okLeafR; infer_instance
def getLeafRL (bs : List UInt8) : LeafD := if okLeafR bs then (rdLeaf bs).1 else leafZ
def getLeafRE (bs : List UInt8) : Int := if okLeafR bs then 0 else 21
def GetLeafRPost (w : World) (bs : List UInt8) (e : Ending) (w' : World) : Prop := ∃ v, e = .returned (.tuple #[v, .int .i64 (getLeafRE bs)]) ∧ LeafO w.heap.size w' v (getLeafRL bs) ∧ Kp [] w w'

/-- Six cells are written. -/
def set6 (U : World) (b : Nat) (u0 u1 u2 u3 u4 u5 : Value) : World :=
  (((((U.setCell ⟨b, 0, none⟩ u0).setCell ⟨b, 1, none⟩ u1).setCell ⟨b, 2, none⟩ u2).setCell ⟨b, 3, none⟩ u3).setCell ⟨b, 4, none⟩ u4).setCell ⟨b, 5, none⟩ u5
theorem set6_kp (U : World) (b : Nat) (u0 u1 u2 u3 u4 u5 : Value) : Kp [b] U (set6 U b u0 u1 u2 u3 u4 u5) :=
  ((((((Kp.refl [b] U).setCell _ _ (by simp)).setCell _ _ (by simp)).setCell _ _ (by simp)).setCell _ _ (by simp)).setCell _ _ (by simp)).setCell _ _ (by simp)

set_option maxRecDepth 100000 in
set_option maxHeartbeats 4000000 in
theorem rgetLeaf_end {w : World} {bv : Value} {bs : List UInt8} (hb : Bs w bv bs) (hlen : bs.length ≤ 17592186044416) (hn : endOf (rdLeaf bs).2.1 (rdLeaf bs).2.2 ≠ 0) : Calls Tryd.prog 26 #[bv] w fun e w' => e = .returned (.tuple #[zeroLeafV, .int .i64 21]) ∧ Kp [] w w' := by
  have Z0 := Lib.hid (heap_alloc_new w (.cells #[.slice none 0 0, .slice none 0 0, .slice none 0 0, .int .i64 0, .slice none 0 0, .slice none 0 0] 24))
  have K0 := Lib.hid ((Kp.refl [] w).alloc (.cells #[.slice none 0 0, .slice none 0 0, .slice none 0 0, .int .i64 0, .slice none 0 0, .slice none 0 0] 24))
  have hN := qnew_any (hb.kp K0.out) (by omega)
  rcases hR : rdLeaf bs with ⟨l, ys, e⟩
  rw [hR] at hn
  simp only at hn
  have HR := Lib.hid hR
  have t1 : (endOf ys e != 0) = true := by simpa using hn
  clear hR hn hb hlen
  go_enter Tryd.func26, Tryd.ntmps26
  go_wp2_with fail
  refine hN.mono ?_
  rintro en w1 ⟨r, rfl, hr, k1, r1⟩
  have hL := qreadLeaf_any r1
  rw [HR.out] at hL
  go_wp2_with fail
  refine hL.mono ?_
  rintro en w2 ⟨v, rfl, ⟨A0, A1, A2, A3, A4, C0, C1, C2, C3, C4, rfl, o0, o1, o2, o3, o4⟩, k2, r2⟩
  have KB := (Kp.refl [] w2).alloc (.cells #[.slice A0 l.enc.length C0, .slice A1 l.sig.length C1, .slice A2 l.name.length C2, .int .i64 l.src, .slice A3 l.hash.length C3, .slice A4 l.sgn.length C4] 24)
  have hE := qend_any (r2.kp KB)
  simp only [World.size_alloc] at hr
  have z1 := k1.size
  have z2 := k2.size
  simp only [World.size_alloc] at z1
  have hZ2 := KB.obj (k2.obj (k1.obj Z0.out (by simp)) (r1.ne (k1.obj Z0.out (by simp)) (by decide))) (by simp)
  have B2 := heap_alloc_new w2 (.cells #[.slice A0 l.enc.length C0, .slice A1 l.sig.length C1, .slice A2 l.name.length C2, .int .i64 l.src, .slice A3 l.hash.length C3, .slice A4 l.sgn.length C4] 24)
  have hne : w.heap.size ≠ w2.heap.size := by omega
  have KA : Kp [] w w2 := (K0.out.trans k1).old k2 (by intro x hx; simp at hx; omega)
  have KBh := Lib.hid KB
  clear KB
  go_wp2_with fail
  refine hE.mono ?_
  rintro en w3 ⟨rfl, n, hw3⟩
  have k3 : Kp [] _ w3 := hw3 ▸ Kp.drewNs n
  clear hw3
  have B3 := Lib.hid (k3.obj B2 (by simp))
  have Z3 := Lib.hid (k3.obj hZ2 (by simp))
  have K3 := Lib.hid (KBh.out.trans k3)
  have KA' := Lib.hid KA
  clear B2 hZ2 k3 KA
  have t0 : w3.cell? ⟨w.heap.size, 0, none⟩ = some (.slice none 0 0) := heap_cell Z3.out 0
  have t1 : w3.cell? ⟨w.heap.size, 1, none⟩ = some (.slice none 0 0) := heap_cell Z3.out 1
  have t2 : w3.cell? ⟨w.heap.size, 2, none⟩ = some (.slice none 0 0) := heap_cell Z3.out 2
  have t3 : w3.cell? ⟨w.heap.size, 3, none⟩ = some (.int .i64 0) := heap_cell Z3.out 3
  have t4 : w3.cell? ⟨w.heap.size, 4, none⟩ = some (.slice none 0 0) := heap_cell Z3.out 4
  have t5 : w3.cell? ⟨w.heap.size, 5, none⟩ = some (.slice none 0 0) := heap_cell Z3.out 5
  have g0 := heap_free Z3.out 0
  have g1 := heap_free Z3.out 1
  have g2 := heap_free Z3.out 2
  have g3 := heap_free Z3.out 3
  have g4 := heap_free Z3.out 4
  have g5 := heap_free Z3.out 5
  go_wp2
  have K7 := set6_kp w3 w.heap.size (.slice none 0 0) (.slice none 0 0) (.slice none 0 0) (.int .i64 0) (.slice none 0 0) (.slice none 0 0)
  refine bodyPost_ret (v := .tuple #[zeroLeafV, .int .i64 21]) (by simp [results, Tryd.results26, go_sem, t0, t1, t2, t3, t4, t5, zeroLeafV]) rfl ⟨rfl, ((KA'.out.trans K3.out).old K7 (by intro x hx; simp at hx; omega))⟩

set_option maxRecDepth 100000 in
set_option maxHeartbeats 4000000 in
theorem rgetLeaf_no {w : World} {bv : Value} {bs : List UInt8} (hb : Bs w bv bs) (hlen : bs.length ≤ 17592186044416) (hn : endOf (rdLeaf bs).2.1 (rdLeaf bs).2.2 = 0) (hq : ¬ rightL (rdLeaf bs).1) : Calls Tryd.prog 26 #[bv] w fun e w' => e = .returned (.tuple #[zeroLeafV, .int .i64 21]) ∧ Kp [] w w' := by
  have Z0 := Lib.hid (heap_alloc_new w (.cells #[.slice none 0 0, .slice none 0 0, .slice none 0 0, .int .i64 0, .slice none 0 0, .slice none 0 0] 24))
  have K0 := Lib.hid ((Kp.refl [] w).alloc (.cells #[.slice none 0 0, .slice none 0 0, .slice none 0 0, .int .i64 0, .slice none 0 0, .slice none 0 0] 24))
  have hN := qnew_any (hb.kp K0.out) (by omega)
  rcases hR : rdLeaf bs with ⟨l, ys, e⟩
  rw [hR] at hn hq
  simp only at hn hq
  have HR := Lib.hid hR
  have HN := Lib.hid hn
  have HQ := Lib.hid hq
  clear hR hn hq hb hlen
  go_enter Tryd.func26, Tryd.ntmps26
  go_wp2_with fail
  refine hN.mono ?_
  rintro en w1 ⟨r, rfl, hr, k1, r1⟩
  have hL := qreadLeaf_any r1
  rw [HR.out] at hL
  go_wp2_with fail
  refine hL.mono ?_
  rintro en w2 ⟨v, rfl, ⟨A0, A1, A2, A3, A4, C0, C1, C2, C3, C4, rfl, o0, o1, o2, o3, o4⟩, k2, r2⟩
  have KB := (Kp.refl [] w2).alloc (.cells #[.slice A0 l.enc.length C0, .slice A1 l.sig.length C1, .slice A2 l.name.length C2, .int .i64 l.src, .slice A3 l.hash.length C3, .slice A4 l.sgn.length C4] 24)
  have hE := qend_any (r2.kp KB)
  rw [HN.out] at hE
  simp only [World.size_alloc] at hr
  have z1 := k1.size
  have z2 := k2.size
  simp only [World.size_alloc] at z1
  have hZ2 := KB.obj (k2.obj (k1.obj Z0.out (by simp)) (r1.ne (k1.obj Z0.out (by simp)) (by decide))) (by simp)
  have B2 := heap_alloc_new w2 (.cells #[.slice A0 l.enc.length C0, .slice A1 l.sig.length C1, .slice A2 l.name.length C2, .int .i64 l.src, .slice A3 l.hash.length C3, .slice A4 l.sgn.length C4] 24)
  have hne : w.heap.size ≠ w2.heap.size := by omega
  have KA : Kp [] w w2 := (K0.out.trans k1).old k2 (by intro x hx; simp at hx; omega)
  have KBh := Lib.hid KB
  clear KB
  go_wp2_with fail
  refine hE.mono ?_
  rintro en w3 ⟨rfl, n, hw3⟩
  have k3 : Kp [] _ w3 := hw3 ▸ Kp.drewNs n
  clear hw3
  have B3 := Lib.hid (k3.obj B2 (by simp))
  have Z3 := Lib.hid (k3.obj hZ2 (by simp))
  have K3 := Lib.hid (KBh.out.trans k3)
  have KA' := Lib.hid KA
  clear B2 hZ2 k3 KA
  have LV : LeafV w3 (.agg #[.slice A0 l.enc.length C0, .slice A1 l.sig.length C1, .slice A2 l.name.length C2, .int .i64 l.src, .slice A3 l.hash.length C3, .slice A4 l.sgn.length C4]) l := ⟨A0, A1, A2, A3, A4, C0, C1, C2, C3, C4, rfl, o0.bs.kp K3.out, o1.bs.kp K3.out, o2.bs.kp K3.out, o3.bs.kp K3.out, o4.bs.kp K3.out⟩
  have hRL := rright_any LV
  rw [show decide (rightL l) = false from decide_eq_false HQ.out] at hRL
  clear LV
  have s0 : w3.cell? ⟨w2.heap.size, 0, none⟩ = some (.slice A0 l.enc.length C0) := heap_cell B3.out 0
  have s1 : w3.cell? ⟨w2.heap.size, 1, none⟩ = some (.slice A1 l.sig.length C1) := heap_cell B3.out 1
  have s2 : w3.cell? ⟨w2.heap.size, 2, none⟩ = some (.slice A2 l.name.length C2) := heap_cell B3.out 2
  have s3 : w3.cell? ⟨w2.heap.size, 3, none⟩ = some (.int .i64 l.src) := heap_cell B3.out 3
  have s4 : w3.cell? ⟨w2.heap.size, 4, none⟩ = some (.slice A3 l.hash.length C3) := heap_cell B3.out 4
  have s5 : w3.cell? ⟨w2.heap.size, 5, none⟩ = some (.slice A4 l.sgn.length C4) := heap_cell B3.out 5
  go_wp2_with fail
  refine hRL.mono ?_
  rintro en w4 ⟨rfl, k4⟩
  have B4 := Lib.hid (k4.obj B3.out (by simp))
  have Z4 := Lib.hid (k4.obj Z3.out (by simp))
  have K4 := Lib.hid (K3.out.trans k4)
  clear k4
  clear s0 s1 s2 s3 s4 s5
  have t0 : w4.cell? ⟨w.heap.size, 0, none⟩ = some (.slice none 0 0) := heap_cell Z4.out 0
  have t1 : w4.cell? ⟨w.heap.size, 1, none⟩ = some (.slice none 0 0) := heap_cell Z4.out 1
  have t2 : w4.cell? ⟨w.heap.size, 2, none⟩ = some (.slice none 0 0) := heap_cell Z4.out 2
  have t3 : w4.cell? ⟨w.heap.size, 3, none⟩ = some (.int .i64 0) := heap_cell Z4.out 3
  have t4 : w4.cell? ⟨w.heap.size, 4, none⟩ = some (.slice none 0 0) := heap_cell Z4.out 4
  have t5 : w4.cell? ⟨w.heap.size, 5, none⟩ = some (.slice none 0 0) := heap_cell Z4.out 5
  have g0 := heap_free Z4.out 0
  have g1 := heap_free Z4.out 1
  have g2 := heap_free Z4.out 2
  have g3 := heap_free Z4.out 3
  have g4 := heap_free Z4.out 4
  have g5 := heap_free Z4.out 5
  go_wp2
  have K7 := set6_kp w4 w.heap.size (.slice none 0 0) (.slice none 0 0) (.slice none 0 0) (.int .i64 0) (.slice none 0 0) (.slice none 0 0)
  refine bodyPost_ret (v := .tuple #[zeroLeafV, .int .i64 21]) (by simp [results, Tryd.results26, go_sem, t0, t1, t2, t3, t4, t5, zeroLeafV]) rfl ⟨rfl, ((KA'.out.trans K4.out).old K7 (by intro x hx; simp at hx; omega))⟩

set_option maxRecDepth 100000 in
set_option maxHeartbeats 4000000 in
theorem rgetLeaf_ok {w : World} {bv : Value} {bs : List UInt8} (hb : Bs w bv bs) (hlen : bs.length ≤ 17592186044416) (hn : endOf (rdLeaf bs).2.1 (rdLeaf bs).2.2 = 0) (hq : rightL (rdLeaf bs).1) : Calls Tryd.prog 26 #[bv] w fun e w' => ∃ v, e = .returned (.tuple #[v, .int .i64 0]) ∧ LeafO w.heap.size w' v (rdLeaf bs).1 ∧ Kp [] w w' := by
  have Z0 := Lib.hid (heap_alloc_new w (.cells #[.slice none 0 0, .slice none 0 0, .slice none 0 0, .int .i64 0, .slice none 0 0, .slice none 0 0] 24))
  have K0 := Lib.hid ((Kp.refl [] w).alloc (.cells #[.slice none 0 0, .slice none 0 0, .slice none 0 0, .int .i64 0, .slice none 0 0, .slice none 0 0] 24))
  have hN := qnew_any (hb.kp K0.out) (by omega)
  rcases hR : rdLeaf bs with ⟨l, ys, e⟩
  rw [hR] at hn hq
  simp only at hn hq
  have HR := Lib.hid hR
  have HN := Lib.hid hn
  have HQ := Lib.hid hq
  clear hR hn hq hb hlen
  go_enter Tryd.func26, Tryd.ntmps26
  go_wp2_with fail
  refine hN.mono ?_
  rintro en w1 ⟨r, rfl, hr, k1, r1⟩
  have hL := qreadLeaf_any r1
  rw [HR.out] at hL
  go_wp2_with fail
  refine hL.mono ?_
  rintro en w2 ⟨v, rfl, ⟨A0, A1, A2, A3, A4, C0, C1, C2, C3, C4, rfl, o0, o1, o2, o3, o4⟩, k2, r2⟩
  have KB := (Kp.refl [] w2).alloc (.cells #[.slice A0 l.enc.length C0, .slice A1 l.sig.length C1, .slice A2 l.name.length C2, .int .i64 l.src, .slice A3 l.hash.length C3, .slice A4 l.sgn.length C4] 24)
  have hE := qend_any (r2.kp KB)
  rw [HN.out] at hE
  simp only [World.size_alloc] at hr
  have z1 := k1.size
  have z2 := k2.size
  simp only [World.size_alloc] at z1
  have hZ2 := KB.obj (k2.obj (k1.obj Z0.out (by simp)) (r1.ne (k1.obj Z0.out (by simp)) (by decide))) (by simp)
  have B2 := heap_alloc_new w2 (.cells #[.slice A0 l.enc.length C0, .slice A1 l.sig.length C1, .slice A2 l.name.length C2, .int .i64 l.src, .slice A3 l.hash.length C3, .slice A4 l.sgn.length C4] 24)
  have hne : w.heap.size ≠ w2.heap.size := by omega
  have KA : Kp [] w w2 := (K0.out.trans k1).old k2 (by intro x hx; simp at hx; omega)
  have KBh := Lib.hid KB
  clear KB
  go_wp2_with fail
  refine hE.mono ?_
  rintro en w3 ⟨rfl, n, hw3⟩
  have k3 : Kp [] _ w3 := hw3 ▸ Kp.drewNs n
  clear hw3
  have B3 := Lib.hid (k3.obj B2 (by simp))
  have Z3 := Lib.hid (k3.obj hZ2 (by simp))
  have K3 := Lib.hid (KBh.out.trans k3)
  have KA' := Lib.hid KA
  clear B2 hZ2 k3 KA
  have LV : LeafV w3 (.agg #[.slice A0 l.enc.length C0, .slice A1 l.sig.length C1, .slice A2 l.name.length C2, .int .i64 l.src, .slice A3 l.hash.length C3, .slice A4 l.sgn.length C4]) l := ⟨A0, A1, A2, A3, A4, C0, C1, C2, C3, C4, rfl, o0.bs.kp K3.out, o1.bs.kp K3.out, o2.bs.kp K3.out, o3.bs.kp K3.out, o4.bs.kp K3.out⟩
  have hRL := rright_any LV
  rw [show decide (rightL l) = true from decide_eq_true HQ.out] at hRL
  clear LV
  have s0 : w3.cell? ⟨w2.heap.size, 0, none⟩ = some (.slice A0 l.enc.length C0) := heap_cell B3.out 0
  have s1 : w3.cell? ⟨w2.heap.size, 1, none⟩ = some (.slice A1 l.sig.length C1) := heap_cell B3.out 1
  have s2 : w3.cell? ⟨w2.heap.size, 2, none⟩ = some (.slice A2 l.name.length C2) := heap_cell B3.out 2
  have s3 : w3.cell? ⟨w2.heap.size, 3, none⟩ = some (.int .i64 l.src) := heap_cell B3.out 3
  have s4 : w3.cell? ⟨w2.heap.size, 4, none⟩ = some (.slice A3 l.hash.length C3) := heap_cell B3.out 4
  have s5 : w3.cell? ⟨w2.heap.size, 5, none⟩ = some (.slice A4 l.sgn.length C4) := heap_cell B3.out 5
  go_wp2_with fail
  refine hRL.mono ?_
  rintro en w4 ⟨rfl, k4⟩
  have B4 := Lib.hid (k4.obj B3.out (by simp))
  have Z4 := Lib.hid (k4.obj Z3.out (by simp))
  have K4 := Lib.hid (K3.out.trans k4)
  clear k4
  clear s0 s1 s2 s3 s4 s5
  have u0 : w4.cell? ⟨w2.heap.size, 0, none⟩ = some (.slice A0 l.enc.length C0) := heap_cell B4.out 0
  have u1 : w4.cell? ⟨w2.heap.size, 1, none⟩ = some (.slice A1 l.sig.length C1) := heap_cell B4.out 1
  have u2 : w4.cell? ⟨w2.heap.size, 2, none⟩ = some (.slice A2 l.name.length C2) := heap_cell B4.out 2
  have u3 : w4.cell? ⟨w2.heap.size, 3, none⟩ = some (.int .i64 l.src) := heap_cell B4.out 3
  have u4 : w4.cell? ⟨w2.heap.size, 4, none⟩ = some (.slice A3 l.hash.length C3) := heap_cell B4.out 4
  have u5 : w4.cell? ⟨w2.heap.size, 5, none⟩ = some (.slice A4 l.sgn.length C4) := heap_cell B4.out 5
  have t0 : w4.cell? ⟨w.heap.size, 0, none⟩ = some (.slice none 0 0) := heap_cell Z4.out 0
  have t1 : w4.cell? ⟨w.heap.size, 1, none⟩ = some (.slice none 0 0) := heap_cell Z4.out 1
  have t2 : w4.cell? ⟨w.heap.size, 2, none⟩ = some (.slice none 0 0) := heap_cell Z4.out 2
  have t3 : w4.cell? ⟨w.heap.size, 3, none⟩ = some (.int .i64 0) := heap_cell Z4.out 3
  have t4 : w4.cell? ⟨w.heap.size, 4, none⟩ = some (.slice none 0 0) := heap_cell Z4.out 4
  have t5 : w4.cell? ⟨w.heap.size, 5, none⟩ = some (.slice none 0 0) := heap_cell Z4.out 5
  have g0 := heap_free Z4.out 0
  have g1 := heap_free Z4.out 1
  have g2 := heap_free Z4.out 2
  have g3 := heap_free Z4.out 3
  have g4 := heap_free Z4.out 4
  have g5 := heap_free Z4.out 5
  go_wp2
  have K7 := set6_kp w4 w.heap.size (.slice A0 l.enc.length C0) (.slice A1 l.sig.length C1) (.slice A2 l.name.length C2) (.int .i64 l.src) (.slice A3 l.hash.length C3) (.slice A4 l.sgn.length C4)
  have hT : ∀ b, b ∈ [w.heap.size] → ∃ cs t f, w4.heap[b]? = some (.cells cs t f) ∧ t ≠ 5 := by
    intro b hb
    simp at hb
    subst hb
    exact ⟨_, _, _, Z4.out, by decide⟩
  refine bodyPost_ret (v := .tuple #[.agg #[.slice A0 l.enc.length C0, .slice A1 l.sig.length C1, .slice A2 l.name.length C2, .int .i64 l.src, .slice A3 l.hash.length C3, .slice A4 l.sgn.length C4], .int .i64 0]) (by simp [results, Tryd.results26, go_sem, t0, t1, t2, t3, t4, t5]) rfl
    ⟨_, rfl, ⟨A0, A1, A2, A3, A4, C0, C1, C2, C3, C4, rfl, ((((o0).mono (by omega)).kp K4.out (by simp)).kpT K7 hT), ((((o1).mono (by omega)).kp K4.out (by simp)).kpT K7 hT), ((((o2).mono (by omega)).kp K4.out (by simp)).kpT K7 hT), ((((o3).mono (by omega)).kp K4.out (by simp)).kpT K7 hT), ((((o4).mono (by omega)).kp K4.out (by simp)).kpT K7 hT)⟩, ((KA'.out.trans K4.out).old K7 (by intro x hx; simp at hx; omega))⟩

theorem rgetLeaf_any {w : World} {bv : Value} {bs : List UInt8} (hb : Bs w bv bs) (hlen : bs.length ≤ 17592186044416) : Calls Tryd.prog 26 #[bv] w (GetLeafRPost w bs) := by
  unfold GetLeafRPost getLeafRE getLeafRL
  by_cases h1 : endOf (rdLeaf bs).2.1 (rdLeaf bs).2.2 = 0
  · by_cases h2 : rightL (rdLeaf bs).1
    · have h : okLeafR bs := ⟨h1, h2⟩
      simp only [if_pos h]
      exact rgetLeaf_ok hb hlen h1 h2
    · have h : ¬ okLeafR bs := fun h => h2 h.2
      simp only [if_neg h]
      exact (rgetLeaf_no hb hlen h1 h2).mono fun e w' ⟨he, k⟩ => ⟨_, he, LeafO.nil _ _, k⟩
  · have h : ¬ okLeafR bs := fun h => h1 h.1
    simp only [if_neg h]
    exact (rgetLeaf_end hb hlen h1).mono fun e w' ⟨he, k⟩ => ⟨_, he, LeafO.nil _ _, k⟩
end Go.Proofs.YtgmdcmkokdbeoaaDoor
