/- The path of the reference: GetPath. -/
import Derived.Test.YtgmdcmkokdbeoaaDoorRefO
set_option linter.unusedVariables false
set_option linter.unusedSimpArgs false
namespace Go.Proofs.YtgmdcmkokdbeoaaDoor
open Go.RowKit

/-- A path of the reference, all the call's own. -/
def PathRO (base : Nat) (w : World) (v : Value) (l : LeafD) (ss : List StepD) : Prop := ∃ A0 A1 A2 A3 A4 A5 C0 C1 C2 C3 C4 C5,
  v = .agg (pathCells A0 A1 A2 A3 A4 A5 C0 C1 C2 C3 C4 C5 l ss.length) ∧
  Ob base w (.slice A0 l.enc.length C0) l.enc ∧ Ob base w (.slice A1 l.sig.length C1) l.sig ∧ Ob base w (.slice A2 l.name.length C2) l.name ∧ Ob base w (.slice A3 l.hash.length C3) l.hash ∧ Ob base w (.slice A4 l.sgn.length C4) l.sgn ∧
  StepsO 56 51 base w (.slice A5 ss.length C5) ss
theorem PathRO.read {base : Nat} {w : World} {v : Value} {l : LeafD} {ss : List StepD} (h : PathRO base w v l ss) : PathV w v l ss := by
  obtain ⟨A0, A1, A2, A3, A4, A5, C0, C1, C2, C3, C4, C5, rfl, o0, o1, o2, o3, o4, os⟩ := h
  exact ⟨A0, A1, A2, A3, A4, A5, C0, C1, C2, C3, C4, C5, rfl, ⟨A0, A1, A2, A3, A4, C0, C1, C2, C3, C4, rfl, o0.bs, o1.bs, o2.bs, o3.bs, o4.bs⟩, os.read⟩
theorem PathRO.nil (base : Nat) (w : World) : PathRO base w (.agg #[.slice none 0 0, .slice none 0 0, .slice none 0 0, .int .i64 0, .slice none 0 0, .slice none 0 0, .slice none 0 0]) leafZ [] :=
  ⟨none, none, none, none, none, none, 0, 0, 0, 0, 0, 0, rfl, Ob.nil _ _, Ob.nil _ _, Ob.nil _ _, Ob.nil _ _, Ob.nil _ _, StepsO.nil _ _ _ _⟩

/-- What the reference reads. -/
def rA (bs : List UInt8) : List UInt8 × List UInt8 × Int := v1 bs 0
def rB (bs : List UInt8) : List UInt8 × List UInt8 × Int := v1 (rA bs).2.1 (rA bs).2.2
def rOk0 (bs : List UInt8) : Bool := endOf (rB bs).2.1 (rB bs).2.2 == 0
def rSt (bs : List UInt8) : List StepD × Bool := stepsR (rB bs).1 (rOk0 bs)
def refOk (bs : List UInt8) : Prop := okLeafR (rA bs).1 ∧ (rSt bs).2 = true ∧ rightP (rdLeaf (rA bs).1).1 (rSt bs).1 = true
instance (bs : List UInt8) : Decidable (refOk bs) := by unfold refOk; infer_instance
def refL (bs : List UInt8) : LeafD := if refOk bs then (rdLeaf (rA bs).1).1 else leafZ
def refS (bs : List UInt8) : List StepD := if refOk bs then (rSt bs).1 else []
def refE (bs : List UInt8) : Int := if refOk bs then 0 else 21
def GetPathRPost (w : World) (bs : List UInt8) (e : Ending) (w' : World) : Prop :=
  ∃ v, e = .returned (.tuple #[v, .int .i64 (refE bs)]) ∧ PathRO w.heap.size w' v (refL bs) (refS bs) ∧ Kp [] w w'

set_option maxRecDepth 100000 in
set_option maxHeartbeats 8000000 in
theorem rgetPath_leaf {w : World} {bv : Value} {bs : List UInt8} (hb : Bs w bv bs) (hlen : bs.length ≤ 1099511627776) (hleaf : ¬ okLeafR (rA bs).1) :
    Calls Tryd.prog 9 #[bv] w fun e w' => e = .returned (.tuple #[.agg #[.slice none 0 0, .slice none 0 0, .slice none 0 0, .int .i64 0, .slice none 0 0, .slice none 0 0, .slice none 0 0], .int .i64 21]) ∧ Kp [] w w' := by
  have Z0 := Lib.hid (heap_alloc_new w rpathZ)
  have K0 := Lib.hid ((Kp.refl [] w).alloc rpathZ)
  have hN := qnew_any (hb.kp K0.out) (by omega)
  unfold rpathZ at hN
  have HL := Lib.hid (show (rA bs).1.length ≤ 17592186044416 by have := (v1_len bs 0).1; unfold rA; omega)
  have HE := Lib.hid (show getLeafRE (rA bs).1 = 21 by simp [getLeafRE, hleaf])
  have HA := Lib.hid (show v1 bs 0 = rA bs from rfl)
  have HB := Lib.hid (show v1 (rA bs).2.1 (rA bs).2.2 = rB bs from rfl)
  have HBl := Lib.hid (show (rB bs).1.length ≤ 1099511627776 by have := (v1_len (rA bs).2.1 (rA bs).2.2).1; have := (v1_len bs 0).2; unfold rB; unfold rA at *; omega)
  clear hb hleaf
  go_enter Tryd.func9, Tryd.ntmps9
  go_wp2_with fail
  refine hN.mono ?_
  rintro en w1 ⟨r, rfl, hr, k1, r1⟩
  have hV := qvec_any r1
  rw [HA.out] at hV
  go_wp2_with fail
  refine hV.mono ?_
  rintro en w2 ⟨A, C, rfl, k2, o2, r2⟩
  have hG := rgetLeaf_any o2.bs HL.out
  unfold GetLeafRPost at hG
  rw [HE.out] at hG
  go_wp2_with fail
  refine hG.mono ?_
  rintro en w3 ⟨v, rfl, ⟨A0, A1, A2, A3, A4, C0, C1, C2, C3, C4, rfl, o0, o1, o2', o3, o4⟩, k3⟩
  generalize getLeafRL (rA bs).1 = l at *
  have KB := Lib.hid (((Kp.refl [] w3).alloc (.cells #[.slice A0 l.enc.length C0, .slice A1 l.sig.length C1, .slice A2 l.name.length C2, .int .i64 l.src, .slice A3 l.hash.length C3, .slice A4 l.sgn.length C4] 24)).alloc (.cells (pathCells A0 A1 A2 A3 A4 none C0 C1 C2 C3 C4 0 l 0) 27))
  have hV2 := qvec_any ((r2.kp k3).kp KB.out)
  rw [HB.out] at hV2
  have H7 := Lib.hid (alloc2_last w3 (.cells #[.slice A0 l.enc.length C0, .slice A1 l.sig.length C1, .slice A2 l.name.length C2, .int .i64 l.src, .slice A3 l.hash.length C3, .slice A4 l.sgn.length C4] 24) (.cells (pathCells A0 A1 A2 A3 A4 none C0 C1 C2 C3 C4 0 l 0) 27))
  have R3 := Lib.hid (r2.kp k3)
  have KR := Lib.hid k3
  have KV := Lib.hid k2
  have KN := Lib.hid k1
  have RN := Lib.hid r1
  simp only [World.size_alloc] at hr
  unfold pathCells at hV2
  go_wp2_with fail
  refine hV2.mono ?_
  rintro en w4 ⟨Ab, Cb, rfl, k4, ob, r4⟩
  have hN2 := qnew_any ob.bs (by have := HBl.out; omega)
  go_wp2_with fail
  refine hN2.mono ?_
  rintro en w5 ⟨rs, rfl, hrs, k5, r5⟩
  have z1 := k1.size; have z2 := k2.size; have z3 := k3.size; have z4 := k4.size; have z5 := k5.size
  simp only [World.size_alloc] at z1 z4
  have q1 : ∀ {b} {o : Obj}, w1.heap[b]? = some o → b ∉ [r] → w5.heap[b]? = some o := fun h hn =>
    k5.obj (k4.obj (KB.out.obj (k3.obj (k2.obj h hn) (by simp)) (by simp)) hn) (by simp)
  have Z5 := Lib.hid (q1 (KN.out.obj Z0.out (by simp)) (RN.out.ne (KN.out.obj Z0.out (by simp)) (by decide)))
  have KW := Lib.hid ((((((K0.out.nil.trans k1.nil).trans k2).trans k3.nil).trans KB.out.nil).trans k4).trans k5.nil)
  have KW0 : Kp [] w w5 := (Kp.refl [] w).old KW.out (by intro x hx; simp at hx; omega)
  have KZ := Lib.hid KW0
  clear KW0 q1
  have t0 : w5.cell? ⟨w.heap.size, 0, none⟩ = some (.slice none 0 0) := heap_cell Z5.out 0
  have g0 := heap_free Z5.out 0
  have t1 : w5.cell? ⟨w.heap.size, 1, none⟩ = some (.slice none 0 0) := heap_cell Z5.out 1
  have g1 := heap_free Z5.out 1
  have t2 : w5.cell? ⟨w.heap.size, 2, none⟩ = some (.slice none 0 0) := heap_cell Z5.out 2
  have g2 := heap_free Z5.out 2
  have t3 : w5.cell? ⟨w.heap.size, 3, none⟩ = some (.int .i64 0) := heap_cell Z5.out 3
  have g3 := heap_free Z5.out 3
  have t4 : w5.cell? ⟨w.heap.size, 4, none⟩ = some (.slice none 0 0) := heap_cell Z5.out 4
  have g4 := heap_free Z5.out 4
  have t5 : w5.cell? ⟨w.heap.size, 5, none⟩ = some (.slice none 0 0) := heap_cell Z5.out 5
  have g5 := heap_free Z5.out 5
  have t6 : w5.cell? ⟨w.heap.size, 6, none⟩ = some (.slice none 0 0) := heap_cell Z5.out 6
  have g6 := heap_free Z5.out 6
  have K7 := set7_kp w5 w.heap.size (.slice none 0 0) (.slice none 0 0) (.slice none 0 0) (.int .i64 0) (.slice none 0 0) (.slice none 0 0) (.slice none 0 0)
  clear k1 k2 k3 k4 k5 r1 r2 r4 r5 o0 o1 o2 o2' o3 o4 ob
  go_wp2
  go_loop [9] (fun v => v = .bool false) (fun _ => 0)
  case atStart => exact rfl
  case round =>
    subst hrel
    go_wp2
    refine bodyPost_ret (v := .tuple #[.agg #[.slice none 0 0, .slice none 0 0, .slice none 0 0, .int .i64 0, .slice none 0 0, .slice none 0 0, .slice none 0 0], .int .i64 21]) (by simp [results, Tryd.results9, go_sem, t0, t1, t2, t3, t4, t5, t6]) rfl ⟨rfl, KZ.out.old K7 (by intro x hx; simp at hx; omega)⟩
theorem GetPathRPost.no {w w' : World} {bs : List UInt8} (h : ¬ refOk bs) (hk : Kp [] w w') : GetPathRPost w bs (.returned (.tuple #[.agg #[.slice none 0 0, .slice none 0 0, .slice none 0 0, .int .i64 0, .slice none 0 0, .slice none 0 0, .slice none 0 0], .int .i64 21])) w' :=
  ⟨.agg #[.slice none 0 0, .slice none 0 0, .slice none 0 0, .int .i64 0, .slice none 0 0, .slice none 0 0, .slice none 0 0], by simp [refE, h], by simp only [refL, refS, if_neg h]; exact PathRO.nil _ _, hk⟩
theorem GetPathRPost.yes {w w' : World} {bs : List UInt8} {v : Value} (h : refOk bs) (ho : PathRO w.heap.size w' v (rdLeaf (rA bs).1).1 (rSt bs).1) (hk : Kp [] w w') : GetPathRPost w bs (.returned (.tuple #[v, .int .i64 0])) w' :=
  ⟨v, by simp [refE, h], by simp only [refL, refS, if_pos h]; exact ho, hk⟩
/-- The loop's relation. -/
def RgL (w : World) (b7 rs : Nat) (A0 A1 A2 A3 A4 : Option Addr) (C0 C1 C2 C3 C4 : Nat) (l : LeafD) (bs : List UInt8) (ok : Bool) (acc : List StepD) (xs : List UInt8) (e : Int) (W : World) : Prop :=
  RgJ w w.heap.size b7 rs A0 A1 A2 A3 A4 C0 C1 C2 C3 C4 l acc W ∧ Rq W rs xs e ∧ (ok = true → e = 0) ∧ (ok = true → acc.length + xs.length ≤ 1099511627776) ∧ rSt bs = (acc ++ (stepsR xs ok).1, (stepsR xs ok).2)
set_option maxRecDepth 100000 in
set_option maxHeartbeats 8000000 in
theorem rgetPath_main {w : World} {bv : Value} {bs : List UInt8} (hb : Bs w bv bs) (hlen : bs.length ≤ 1099511627776) (hleaf : okLeafR (rA bs).1) :
    Calls Tryd.prog 9 #[bv] w (GetPathRPost w bs) := by
  have Z0 := Lib.hid (heap_alloc_new w rpathZ)
  have K0 := Lib.hid ((Kp.refl [] w).alloc rpathZ)
  have hN := qnew_any (hb.kp K0.out) (by omega)
  unfold rpathZ at hN
  have HL := Lib.hid (show (rA bs).1.length ≤ 17592186044416 by have := (v1_len bs 0).1; unfold rA; omega)
  have HE := Lib.hid (show getLeafRE (rA bs).1 = 0 by simp [getLeafRE, hleaf])
  have HLe := Lib.hid (show getLeafRL (rA bs).1 = (rdLeaf (rA bs).1).1 by simp [getLeafRL, hleaf])
  have HA := Lib.hid (show v1 bs 0 = rA bs from rfl)
  have HB := Lib.hid (show v1 (rA bs).2.1 (rA bs).2.2 = rB bs from rfl)
  have HBl := Lib.hid (show (rB bs).1.length ≤ 1099511627776 by have := (v1_len (rA bs).2.1 (rA bs).2.2).1; have := (v1_len bs 0).2; unfold rB; unfold rA at *; omega)
  clear hb
  go_enter Tryd.func9, Tryd.ntmps9
  go_wp2_with fail
  refine hN.mono ?_
  rintro en w1 ⟨r, rfl, hr, k1, r1⟩
  have hV := qvec_any r1
  rw [HA.out] at hV
  go_wp2_with fail
  refine hV.mono ?_
  rintro en w2 ⟨A, C, rfl, k2, o2, r2⟩
  have hG := rgetLeaf_any o2.bs HL.out
  unfold GetLeafRPost at hG
  rw [HE.out] at hG
  go_wp2_with fail
  refine hG.mono ?_
  rintro en w3 ⟨v, rfl, ⟨A0, A1, A2, A3, A4, C0, C1, C2, C3, C4, rfl, o0, o1, o2', o3, o4⟩, k3⟩
  generalize getLeafRL (rA bs).1 = l at *
  have KB := Lib.hid (((Kp.refl [] w3).alloc (.cells #[.slice A0 l.enc.length C0, .slice A1 l.sig.length C1, .slice A2 l.name.length C2, .int .i64 l.src, .slice A3 l.hash.length C3, .slice A4 l.sgn.length C4] 24)).alloc (.cells (pathCells A0 A1 A2 A3 A4 none C0 C1 C2 C3 C4 0 l 0) 27))
  have hV2 := qvec_any ((r2.kp k3).kp KB.out)
  rw [HB.out] at hV2
  have H7 := Lib.hid (alloc2_last w3 (.cells #[.slice A0 l.enc.length C0, .slice A1 l.sig.length C1, .slice A2 l.name.length C2, .int .i64 l.src, .slice A3 l.hash.length C3, .slice A4 l.sgn.length C4] 24) (.cells (pathCells A0 A1 A2 A3 A4 none C0 C1 C2 C3 C4 0 l 0) 27))
  have R3 := Lib.hid (r2.kp k3)
  have KR := Lib.hid k3
  have KV := Lib.hid k2
  have KN := Lib.hid k1
  have RN := Lib.hid r1
  simp only [World.size_alloc] at hr
  unfold pathCells at hV2
  go_wp2_with fail
  refine hV2.mono ?_
  rintro en w4 ⟨Ab, Cb, rfl, k4, ob, r4⟩
  have hN2 := qnew_any ob.bs (by have := HBl.out; omega)
  go_wp2_with fail
  refine hN2.mono ?_
  rintro en w5 ⟨rs, rfl, hrs, k5, r5⟩
  have z1 := k1.size; have z2 := k2.size; have z3 := k3.size; have z4 := k4.size; have z5 := k5.size
  simp only [World.size_alloc] at z1 z4
  have q1 : ∀ {b} {o : Obj}, w1.heap[b]? = some o → b ∉ [r] → w5.heap[b]? = some o := fun h hn =>
    k5.obj (k4.obj (KB.out.obj (k3.obj (k2.obj h hn) (by simp)) (by simp)) hn) (by simp)
  have Z5 := Lib.hid (q1 (KN.out.obj Z0.out (by simp)) (RN.out.ne (KN.out.obj Z0.out (by simp)) (by decide)))
  have KW := Lib.hid ((((((K0.out.nil.trans k1.nil).trans k2).trans k3.nil).trans KB.out.nil).trans k4).trans k5.nil)
  have KW0 : Kp [] w w5 := (Kp.refl [] w).old KW.out (by intro x hx; simp at hx; omega)
  have KZ := Lib.hid KW0
  clear KW0 q1
  have hE := qend_any (r4.kp k5)
  obtain ⟨E0, hE0⟩ : ∃ E0, E0 = endOf (rB bs).2.1 (rB bs).2.2 := ⟨_, rfl⟩
  rw [← hE0] at hE
  have HOK := Lib.hid (show rOk0 bs = (E0 == 0) by rw [rOk0, hE0])
  clear hE0
  go_wp2_with fail
  refine hE.mono ?_
  rintro en w6 ⟨rfl, n6, hw6⟩
  have k6 : Kp [] w5 w6 := hw6 ▸ Kp.drewNs n6
  clear hw6
  have hst : RgL w (w3.heap.size + 1) rs A0 A1 A2 A3 A4 C0 C1 C2 C3 C4 l bs (E0 == 0) [] (rB bs).1 0 w6 := by
    have r3' := R3.out.kp KB.out
    have oo : ∀ {v xs}, Ob w2.heap.size w3 v xs → Ob w.heap.size w6 v xs := fun h => ((((h.mono (by omega)).kp KB.out (by simp)).qstep k4 r3').kp k5 (by simp)).kp k6 (by simp)
    refine ⟨⟨KZ.out.trans k6, k6.obj Z5.out (by simp), ⟨none, 0, ?_, StepsO.nil _ _ _ _⟩, oo o0, oo o1, oo o2', oo o3, oo o4⟩, r5.kp k6, fun _ => rfl, fun _ => by have := HBl.out; simp; omega, by rw [rSt, HOK.out]; rfl⟩
    exact k6.obj (k5.obj (k4.obj H7.out (r3'.ne H7.out (by decide))) (by simp)) (by simp)
  have HST := Lib.hid hst
  have HB7 := Lib.hid (show w.heap.size < w3.heap.size + 1 by omega)
  have HRS := Lib.hid (show w.heap.size ≤ rs by omega)
  clear hst k1 k2 k3 k4 k5 k6 r1 r2 r4 r5 o0 o1 o2 o2' o3 o4 ob
  go_wp2_with fail
  go_loopw [9] (fun v wr => ∃ acc xs e ok, v = .bool ok ∧ RgL w (w3.heap.size + 1) rs A0 A1 A2 A3 A4 C0 C1 C2 C3 C4 l bs ok acc xs e wr) (fun v wr => match v with | .bool true => rqM wr rs + 1 | _ => 0)
  case atStart => exact ⟨_, _, _, _, rfl, HST.out⟩
  case round =>
    obtain ⟨acc, xs, e, ok, rfl, hJ, hq, he, hal, hs⟩ := hrel
    obtain ⟨W0, rfl⟩ : ∃ W0, W0 = wr := ⟨_, rfl⟩
    have HJ := Lib.hid hJ
    have HQ := Lib.hid hq
    have HS := Lib.hid hs
    have Z5 := Lib.hid hJ.h2
    clear hJ hq hs
    rcases ok with _ | _
    · have HNO := Lib.hid (show ¬ refOk bs from fun h => by
        have h2 := h.2.1
        rw [HS.out, stepsR_stop _ _ (by simp)] at h2
        cases h2)
      have t0 : W0.cell? ⟨w.heap.size, 0, none⟩ = some (.slice none 0 0) := heap_cell Z5.out 0
      have g0 := heap_free Z5.out 0
      have t1 : W0.cell? ⟨w.heap.size, 1, none⟩ = some (.slice none 0 0) := heap_cell Z5.out 1
      have g1 := heap_free Z5.out 1
      have t2 : W0.cell? ⟨w.heap.size, 2, none⟩ = some (.slice none 0 0) := heap_cell Z5.out 2
      have g2 := heap_free Z5.out 2
      have t3 : W0.cell? ⟨w.heap.size, 3, none⟩ = some (.int .i64 0) := heap_cell Z5.out 3
      have g3 := heap_free Z5.out 3
      have t4 : W0.cell? ⟨w.heap.size, 4, none⟩ = some (.slice none 0 0) := heap_cell Z5.out 4
      have g4 := heap_free Z5.out 4
      have t5 : W0.cell? ⟨w.heap.size, 5, none⟩ = some (.slice none 0 0) := heap_cell Z5.out 5
      have g5 := heap_free Z5.out 5
      have t6 : W0.cell? ⟨w.heap.size, 6, none⟩ = some (.slice none 0 0) := heap_cell Z5.out 6
      have g6 := heap_free Z5.out 6
      have K7 := set7_kp W0 w.heap.size (.slice none 0 0) (.slice none 0 0) (.slice none 0 0) (.int .i64 0) (.slice none 0 0) (.slice none 0 0) (.slice none 0 0)
      clear he hal
      go_wp2
      exact bodyPost_ret (v := .tuple #[.agg #[.slice none 0 0, .slice none 0 0, .slice none 0 0, .int .i64 0, .slice none 0 0, .slice none 0 0, .slice none 0 0], .int .i64 21]) (by simp [results, Tryd.results9, go_sem, t0, t1, t2, t3, t4, t5, t6]) rfl (GetPathRPost.no HNO.out (HJ.out.kp.old K7 (by intro x hx; simp at hx; omega)))
    · have e0 := he rfl
      subst e0
      have hal := hal rfl
      have HXB := Lib.hid (show xs.length ≤ 1099511627776 by omega)
      have HAB := Lib.hid hal
      clear he hal
      have hL := qleft_any HQ.out
      by_cases hlt : 0 < xs.length
      · obtain ⟨N, hN⟩ : ∃ N, N = xs.length := ⟨_, rfl⟩
        rw [← hN] at hL
        have v0 : decide (0 < N) = true := decide_eq_true (by omega)
        have v0' : decide ((0 : Int) < (N : Int)) = true := decide_eq_true (by omega)
        have hpos := Lib.hid hlt
        rcases hI1 : v1 xs 0 with ⟨key, y1, e1⟩
        rcases hI2 : v1 y1 e1 with ⟨tv, y2, e2⟩
        have HIT := Lib.hid (show itStep xs = ((key, tv), y2, e2) by simp [itStep, hI1, hI2])
        have HI1 := Lib.hid hI1
        have HI2 := Lib.hid hI2
        have HXL := Lib.hid HQ.out.len
        have HTV := Lib.hid (show tv.length ≤ 1099511627776 by
          have a := (v1_len xs 0).2
          have b := (v1_len y1 e1).1
          rw [hI1] at a; rw [hI2] at b
          have := HXB.out
          simp only at a b
          omega)
        have HKI := Lib.hid HQ.out.kind.choose_spec
        clear hI1 hI2 hlt hN
        go_wp2_with fail
        refine hL.mono ?_
        rintro en w7 ⟨rfl, n7, hw7⟩
        have k7 : Kp [] W0 w7 := hw7 ▸ Kp.drewNs n7
        clear hw7
        have q7 := HQ.out.kp k7
        have hV1 := qvec_any q7
        rw [HI1.out] at hV1
        go_wp2_with fail
        refine hV1.mono ?_
        rintro en w8 ⟨Ak, Ck, rfl, k8, ok8, r8⟩
        have KX := Lib.hid ((Kp.refl [] w8).alloc (.cells #[.slice Ak key.length Ck, .slice none 0 0] 51))
        have HX := Lib.hid (heap_alloc_new w8 (.cells #[.slice Ak key.length Ck, .slice none 0 0] 51))
        have R8 := Lib.hid (r8.kp KX.out)
        have hV3 := qvec_any R8.out
        rw [HI2.out] at hV3
        go_wp2_with fail
        refine hV3.mono ?_
        rintro en w9 ⟨At, Ct, rfl, k9, ot, r9⟩
        have hN3 := qnew_any (xs := tv) ot.bs (by have := HTV.out; omega)
        go_wp2_with fail
        refine hN3.mono ?_
        rintro en w10 ⟨rt, rfl, hrt, k10, r10⟩
        have z7 := k7.size; have z8 := k8.size; have z9 := k9.size; have z10 := k10.size
        simp only [World.size_alloc] at z9
        have K010 := Lib.hid ((((k7.nil.trans k8).trans KX.out.nil).trans k9).trans k10.nil)
        have BX0 := Lib.hid (k10.obj (k9.obj HX.out (R8.out.ne HX.out (by decide))) (by simp))
        have HRT := Lib.hid (show W0.heap.size ≤ rt by omega)
        have HB10 := Lib.hid (show W0.heap.size ≤ w8.heap.size by omega)
        have KA0 := Lib.hid (show Kp [rs] W0 w10 from K010.out)
        have QRS0 := Lib.hid (r9.kp k10)
        have okey := Lib.hid ((((ok8.mono (base' := w.heap.size) (by have := HJ.out.kp.size; omega)).kp KX.out (by simp)).qstep k9 R8.out).kp k10 (by simp))
        have OKRT := Lib.hid (show (Value.slice Ak key.length Ck).ownBlock = some rt → False from fun hb => by
          obtain ⟨_, cs, hc⟩ := okey.out.block hb
          obtain ⟨cs', hc'⟩ := r10.kind
          rw [hc'] at hc; cases hc)
        have OKB10 := Lib.hid (show (Value.slice Ak key.length Ck).ownBlock = some w8.heap.size → False from fun hb => by
          obtain ⟨_, cs, hc⟩ := okey.out.block hb
          rw [BX0.out] at hc; cases hc)
        have R10 := Lib.hid r10
        have hrtx := Lib.hid (show rt ≠ w8.heap.size by omega)
        have hrsrt : rs ∉ [rt, w8.heap.size] := by
          have h1 := HQ.out.lt
          have h2 := HRT.out
          have h3 := HB10.out
          simp; omega
        have HRR := Lib.hid hrsrt
        clear k7 k8 k9 k10 q7 r8 r9 ok8 ot r10 hrsrt
        go_wp2_with fail
        go_loopw [12] (fun _ wr => ∃ acc2 ys e3 A C, Hid (Kp [rt, w8.heap.size] w10 wr) ∧ Hid (wr.heap[w8.heap.size]? = some (.cells #[.slice Ak key.length Ck, .slice A acc2.length C] 51 (0, 0))) ∧ Hid (SealsO 56 w10.heap.size wr (.slice A acc2.length C) acc2) ∧ Hid (Rq wr rt ys e3) ∧ Hid (pairs tv = acc2 ++ pairsF ys.length ys e3) ∧ Hid (rdEnd tv = rdEndF ys.length ys e3)) (fun _ wr => rqE wr rt)
        case atStart => exact ⟨[], tv, 0, none, 0, Lib.hid (Kp.refl _ _), BX0, Lib.hid (SealsO.nil _ _ _), R10, Lib.hid rfl, Lib.hid rfl⟩
        case round =>
          obtain ⟨acc2, ys, e3, A, C, hK, hx, hso, hqt, hp, hend⟩ := hrel
          obtain ⟨W1, rfl⟩ : ∃ W1, W1 = wr := ⟨_, rfl⟩
          have hL2 := qleft_any hqt.out
          have QRS1 := Lib.hid (QRS0.out.keep hK.out HRR.out (by
            intro b hb
            simp at hb
            rcases hb with rfl | rfl
            · obtain ⟨cs, hc⟩ := R10.out.kind
              exact ⟨_, _, _, hc, by decide⟩
            · exact ⟨_, _, _, BX0.out, by decide⟩))
          by_cases hc : 0 < ys.length ∧ e3 = 0
          · obtain ⟨hyp, he30⟩ := hc
            subst he30
            obtain ⟨M, hM⟩ : ∃ M, M = ys.length := ⟨_, rfl⟩
            rw [← hM] at hL2
            have m0 : decide (0 < M) = true := decide_eq_true (by omega)
            have m0' : decide ((0 : Int) < (M : Int)) = true := decide_eq_true (by omega)
            have HYP := Lib.hid hyp
            rcases hJ1 : v1 ys 0 with ⟨p1, z1, f1⟩
            rcases hJ2 : v1 z1 f1 with ⟨p2, z2, f2⟩
            have HIS := Lib.hid (show itStep ys = ((p1, p2), z2, f2) by simp [itStep, hJ1, hJ2])
            have HJ1 := Lib.hid hJ1
            have HJ2 := Lib.hid hJ2
            have HAC2 := Lib.hid (show acc2.length ≤ 1099511627776 by
              have h1 := congrArg List.length hp.out
              rw [List.length_append] at h1
              have h2 := (pairsF_len tv.length tv 0).1
              have h3 := HTV.out
              unfold pairs at h1
              omega)
            clear hJ1 hJ2 hyp hM
            go_wp2_with fail
            refine hL2.mono ?_
            rintro en w11 ⟨rfl, n11, hw11⟩
            have k11 : Kp [] W1 w11 := hw11 ▸ Kp.drewNs n11
            clear hw11
            have herr := (hqt.out.kp k11).err
            have K11 := Lib.hid k11
            have hW1 := qvec_any (hqt.out.kp k11)
            rw [HJ1.out] at hW1
            go_wp2_with fail
            refine hW1.mono ?_
            rintro en w12 ⟨P1, D1, rfl, k12, op1, r12⟩
            have KY := Lib.hid ((Kp.refl [] w12).alloc (.cells #[.slice P1 p1.length D1, .slice none 0 0] 56))
            have HY := Lib.hid (heap_alloc_new w12 (.cells #[.slice P1 p1.length D1, .slice none 0 0] 56))
            have R12 := Lib.hid (r12.kp KY.out)
            have hW2 := qvec_any R12.out
            rw [HJ2.out] at hW2
            go_wp2_with fail
            refine hW2.mono ?_
            rintro en w13 ⟨P2, D2, rfl, k13, op2, r13⟩
            have z11 := k11.size; have z12 := k12.size; have z13 := k13.size
            simp only [World.size_alloc] at z13
            have zV := hK.out.size
            have HY3 := Lib.hid (k13.obj HY.out (R12.out.ne HY.out (by decide)))
            have s1 : w13.cell? ⟨w12.heap.size, 1, none⟩ = some (.slice none 0 0) := heap_cell HY3.out 1
            have sf := heap_free HY3.out 1
            have HY5 := Lib.hid (heap_set HY3.out 1 (.slice P2 p2.length D2))
            have K15 := Lib.hid (((((Kp.refl [rt] W1).trans k11.nil).trans k12).trans KY.out.nil).trans k13 |>.setCell ⟨w12.heap.size, 1, none⟩ (.slice P2 p2.length D2) (.inr (show W1.heap.size ≤ w12.heap.size by omega)))
            have hsz : (w13.setCell ⟨w12.heap.size, 1, none⟩ (.slice P2 p2.length D2)).heap.size = w13.heap.size := World.size_setCell ..
            have O1 := Lib.hid ((((op1.mono (base' := w10.heap.size) (by omega)).kp KY.out (by simp)).qstep k13 R12.out).set HY3.out (by decide) 1 (.slice P2 p2.length D2))
            have O2 := Lib.hid ((op2.mono (base' := w10.heap.size) (by simp only [World.size_alloc]; omega)).set HY3.out (by decide) 1 (.slice P2 p2.length D2))
            have Q5 := Lib.hid (r13.set HY3.out (by decide) 1 (.slice P2 p2.length D2))
            have hbx : w8.heap.size ≠ rt := fun h => hrtx.out h.symm
            have HX5 := Lib.hid (K15.out.obj hx.out (by simpa using hbx))
            obtain ⟨qs, hrow, hall⟩ := hso.out
            have HRW := Lib.hid hrow
            have HAL := Lib.hid hall
            have HRK := Lib.hid hqt.out.kind
            have T5 := Lib.hid (Kt.one (Ts := [56]) K15.out hqt.out.kind.choose_spec (by decide))
            have K13 := Lib.hid (((((Kp.refl [rt] W1).trans k11.nil).trans k12).trans KY.out.nil).trans k13)
            have HX3 := Lib.hid (K13.out.obj hx.out (by simpa using hbx))
            have x0 : w13.cell? ⟨w8.heap.size, 0, none⟩ = some (.slice Ak key.length Ck) := heap_cell HX3.out 0
            have x1 : w13.cell? ⟨w8.heap.size, 1, none⟩ = some (.slice A acc2.length C) := heap_cell HX3.out 1
            have s0 : w13.cell? ⟨w12.heap.size, 0, none⟩ = some (.slice P1 p1.length D1) := heap_cell HY3.out 0
            have hne12 : w12.heap.size ≠ w8.heap.size := by have := heap_lt hx.out; omega
            have hne12' : w8.heap.size ≠ w12.heap.size := fun h => hne12 h.symm
            have HO := Lib.hid (row_kt (row_kt HRW.out T5.out (by decide)) (Kt.kp (Ts := [56]) ((Kp.refl [] _).alloc (.cells #[.slice P1 p1.length D1, .slice P2 p2.length D2] 56))) (by decide))
            have HSZ := Lib.hid (show w10.heap.size ≤ ((w13.setCell ⟨w12.heap.size, 1, none⟩ (.slice P2 p2.length D2)).alloc (.cells #[.slice P1 p1.length D1, .slice P2 p2.length D2] 56)).heap.size by simp only [World.size_alloc]; omega)
            have HA2 := Lib.hid (alloc_obj HX5.out (.cells #[.slice P1 p1.length D1, .slice P2 p2.length D2] 56))
            have hls := lit_sl (w13.setCell ⟨w12.heap.size, 1, none⟩ (.slice P2 p2.length D2)) (.slice P1 p1.length D1) (.slice P2 p2.length D2) 56
            rw [hsz] at hls
            have HLS := Lib.hid hls
            clear hrow hall k11 k12 k13 op1 op2 r12 r13 hsz hls
            go_wp2_with (at_builtin; refine app_p rfl (.tmp 62) (.tmp 64) pi_rseals rfl w10.heap.size HO.out HLS.out (by rfl) (by rfl) HAC2.out HSZ.out ?_; intro A9 C9 w14 hrow9 hg9; have H9 := Lib.hid hrow9; have HG9 := Lib.hid hg9; have X14 := Lib.hid (row_ktG (Ts := [51]) HO.out HG9.out (by decide) _ _ _ _ HA2.out (by decide)); have y1 : w14.cell? ⟨w8.heap.size, 1, none⟩ = some (.slice A acc2.length C) := heap_cell X14.out 1; have fy := heap_free X14.out 1; clear hrow9 hg9)
            go_roundw
            case rel =>
              have h := RgI.add hK.out hx.out hp.out hend.out HIS.out HYP.out HRW.out HAL.out K15.out HRK.out O1.out O2.out Q5.out H9.out HG9.out hbx
              exact ⟨acc2 ++ [(p1, p2)], z2, f2, A9, C9, Lib.hid h.kp, Lib.hid h.hx, Lib.hid h.hs, Lib.hid h.hq, Lib.hid h.hp, Lib.hid h.he⟩
            case measure =>
              have h := RgI.add hK.out hx.out hp.out hend.out HIS.out HYP.out HRW.out HAL.out K15.out HRK.out O1.out O2.out Q5.out H9.out HG9.out hbx
              rw [h.hq.measureE, hqt.out.measureE]
              by_cases hf : f2 = 0
              · have := itStep_dec ys (by rw [HIS.out]; exact hf)
                rw [HIS.out] at this
                simp only at this
                rw [if_pos hf, if_pos rfl]
                omega
              · rw [if_neg hf, if_pos rfl]
                omega
          · have hpe := Lib.hid (show pairs tv = acc2 by rw [hp.out, pairsF_stop _ _ _ hc, List.append_nil])
            have hee := Lib.hid (show rdEnd tv = (ys, e3) by rw [hend.out, rdEndF_stop _ _ _ hc])
            by_cases hy0 : ys.length = 0
            · rw [hy0, show ((0 : Nat) : Int) = 0 from rfl] at hL2
              clear hy0 hc
              go_wp2_with fail
              refine hL2.mono ?_
              rintro en w11 ⟨rfl, n11, hw11⟩
              have k11 : Kp [] W1 w11 := hw11 ▸ Kp.drewNs n11
              clear hw11
              have KA := Lib.hid ((K010.out.old hK.out (by intro x hx; simp at hx; rcases hx with rfl | rfl; exact .inr HRT.out; exact .inr HB10.out)).trans k11.nil)
              have J11 := Lib.hid (HJ.out.kt (Kt.one (Ts := rbuiltT) KA.out HKI.out (by decide)) (HJ.out.kp.old KA.out (by intro x hx; simp at hx; subst hx; exact .inr HRS.out)))
              obtain ⟨A7, C7, h7, ⟨qs, hrow, hall⟩⟩ := J11.out.h7
              have B7 := Lib.hid h7
              have BX := Lib.hid (k11.obj hx.out (by simp))
              have SX := Lib.hid ((hso.out.kt (Kt.kp (Ts := [5, 56]) k11) (by decide) (by decide)).mono (base' := w.heap.size) (by have := HJ.out.kp.size; have := KA0.out.size; omega))
              have QT := Lib.hid (hqt.out.kp k11)
              have QS := Lib.hid (QRS1.out.kp k11)
              have OK := Lib.hid ((okey.out.kp hK.out (by intro b hb hm; simp at hm; rcases hm with rfl | rfl; exact OKRT.out hb; exact OKB10.out hb)).kp k11 (by simp))
              have s6 : w11.cell? ⟨w3.heap.size + 1, 6, none⟩ = some (.slice A7 acc.length C7) := heap_cell B7.out 6
              have f6 := heap_free B7.out 6
              have x0 : w11.cell? ⟨w8.heap.size, 0, none⟩ = some (.slice Ak key.length Ck) := heap_cell BX.out 0
              have x1 : w11.cell? ⟨w8.heap.size, 1, none⟩ = some (.slice A acc2.length C) := heap_cell BX.out 1
              have HO := Lib.hid (row_kt hrow (Kt.kp (Ts := [51]) ((Kp.refl [] w11).alloc (.cells #[.slice Ak key.length Ck, .slice A acc2.length C] 51))) (by decide))
              have HRW := Lib.hid hrow
              have HAL := Lib.hid hall
              have HAC := Lib.hid (show acc.length ≤ 1099511627776 by have := HAB.out; omega)
              have KW11 := Lib.hid J11.out.kp
              have K11 := Lib.hid k11
              clear h7 hrow hall k11
              by_cases he2 : e2 = 0
              · subst he2
                go_wp2_with (first | (at_builtin; refine app_p rfl (.tmp 68) (.tmp 70) pi_rsteps rfl w.heap.size HO.out (lit_sl w11 _ _ _) (by rfl) (by rfl) HAC.out (by have := KW11.out.size; simp; omega) ?_; intro A9 C9 w12 hrow9 hg9; have H9 := Lib.hid hrow9; have HG9 := Lib.hid hg9; have KTP := Lib.hid ((Kt.kp (Ts := [5, 76, 27]) ((Kp.refl [] w11).alloc (.cells #[.slice Ak key.length Ck, .slice A acc2.length C] 51))).trans (row_ktG HO.out HG9.out (by decide))); have B9 := Lib.hid (KTP.out _ _ _ _ B7.out (by decide)); have y6 : w12.cell? ⟨w3.heap.size + 1, 6, none⟩ = some (.slice A7 acc.length C7) := heap_cell B9.out 6; have g6 := heap_free B9.out 6; have QS2 := Lib.hid ((QS.out.kt KTP.out (by decide) (by decide)).set B9.out (by decide) 6 (.slice A9 (acc.length + 1) C9)); have QT2 := Lib.hid ((QT.out.kt KTP.out (by decide) (by decide)).set B9.out (by decide) 6 (.slice A9 (acc.length + 1) C9)); have hE2 := QS2.out.err; clear hrow9 hg9) | (go_at_call 28; refine (qend_any QT2.out).mono ?_; rintro en w14 ⟨rfl, n14, hw14⟩; have k14 := Lib.hid (show Kp [] _ w14 from hw14 ▸ Kp.drewNs n14); clear hw14))
                go_roundw
                case rel =>
                  have h2 := J11.out.add (W4 := w14) B7.out HRW.out HAL.out OK.out SX.out H9.out HG9.out (by have := HB7.out; omega) (Nat.le_of_lt HB7.out) k14.out
                  refine ⟨acc ++ [(key, acc2)], y2, 0, (endOf ys e3 == 0), rfl, h2, QS2.out.kp k14.out, fun _ => rfl, ?_, ?_⟩
                  · intro _; have := HAB.out; have := itStep_dec xs (by rw [HIT.out]); rw [HIT.out] at this; simp only at this; rw [List.length_append]; simp; omega
                  · rw [HS.out, stepsR_step xs hpos.out, HIT.out, hpe.out]
                    simp [tOk, hee.out]
                    exact ⟨rfl, rfl⟩
                case measure =>
                  cases endOf ys e3 == 0
                  · exact Nat.succ_pos _
                  · show rqM w14 rs + 1 < rqM W0 rs + 1
                    rw [(QS2.out.kp k14.out).measure, HQ.out.measure]
                    have := itStep_dec xs (by rw [HIT.out])
                    rw [HIT.out] at this
                    simp only at this
                    omega
              · have t2 : (e2 == 0) = false := by simpa using he2
                have HE2 := Lib.hid he2
                clear he2
                go_wp2_with (at_builtin; refine app_p rfl (.tmp 68) (.tmp 70) pi_rsteps rfl w.heap.size HO.out (lit_sl w11 _ _ _) (by rfl) (by rfl) HAC.out (by have := KW11.out.size; simp; omega) ?_; intro A9 C9 w12 hrow9 hg9; have H9 := Lib.hid hrow9; have HG9 := Lib.hid hg9; have KTP := Lib.hid ((Kt.kp (Ts := [5, 76, 27]) ((Kp.refl [] w11).alloc (.cells #[.slice Ak key.length Ck, .slice A acc2.length C] 51))).trans (row_ktG HO.out HG9.out (by decide))); have B9 := Lib.hid (KTP.out _ _ _ _ B7.out (by decide)); have y6 : w12.cell? ⟨w3.heap.size + 1, 6, none⟩ = some (.slice A7 acc.length C7) := heap_cell B9.out 6; have g6 := heap_free B9.out 6; have QS2 := Lib.hid ((QS.out.kt KTP.out (by decide) (by decide)).set B9.out (by decide) 6 (.slice A9 (acc.length + 1) C9)); have QT2 := Lib.hid ((QT.out.kt KTP.out (by decide) (by decide)).set B9.out (by decide) 6 (.slice A9 (acc.length + 1) C9)); have hE2 := QS2.out.err; clear hrow9 hg9)
                go_roundw
                case rel =>
                  have h2 := J11.out.add (W4 := _) B7.out HRW.out HAL.out OK.out SX.out H9.out HG9.out (by have := HB7.out; omega) (Nat.le_of_lt HB7.out) (Kp.refl _ _)
                  refine ⟨acc ++ [(key, acc2)], y2, e2, false, rfl, h2, QS2.out, (fun h => by cases h), ?_, ?_⟩
                  · intro h; cases h
                  · rw [HS.out, stepsR_step xs hpos.out, HIT.out, hpe.out]
                    simp [tOk, hee.out, HE2.out]

                case measure =>
                  exact Nat.succ_pos _
            · have hne3 : (e3 == 0) = false := by simp; intro h; exact hc ⟨by omega, h⟩
              obtain ⟨M, hM⟩ : ∃ M, M = ys.length := ⟨_, rfl⟩
              rw [← hM] at hL2
              have m0 : decide (0 < M) = true := decide_eq_true (by omega)
              have m0' : decide ((0 : Int) < (M : Int)) = true := decide_eq_true (by omega)
              clear hc hy0 hM
              go_wp2_with fail
              refine hL2.mono ?_
              rintro en w11 ⟨rfl, n11, hw11⟩
              have k11 : Kp [] W1 w11 := hw11 ▸ Kp.drewNs n11
              clear hw11
              have herr := (hqt.out.kp k11).err
              have KA := Lib.hid ((K010.out.old hK.out (by intro x hx; simp at hx; rcases hx with rfl | rfl; exact .inr HRT.out; exact .inr HB10.out)).trans k11.nil)
              have J11 := Lib.hid (HJ.out.kt (Kt.one (Ts := rbuiltT) KA.out HKI.out (by decide)) (HJ.out.kp.old KA.out (by intro x hx; simp at hx; subst hx; exact .inr HRS.out)))
              obtain ⟨A7, C7, h7, ⟨qs, hrow, hall⟩⟩ := J11.out.h7
              have B7 := Lib.hid h7
              have BX := Lib.hid (k11.obj hx.out (by simp))
              have SX := Lib.hid ((hso.out.kt (Kt.kp (Ts := [5, 56]) k11) (by decide) (by decide)).mono (base' := w.heap.size) (by have := HJ.out.kp.size; have := KA0.out.size; omega))
              have QT := Lib.hid (hqt.out.kp k11)
              have QS := Lib.hid (QRS1.out.kp k11)
              have OK := Lib.hid ((okey.out.kp hK.out (by intro b hb hm; simp at hm; rcases hm with rfl | rfl; exact OKRT.out hb; exact OKB10.out hb)).kp k11 (by simp))
              have s6 : w11.cell? ⟨w3.heap.size + 1, 6, none⟩ = some (.slice A7 acc.length C7) := heap_cell B7.out 6
              have f6 := heap_free B7.out 6
              have x0 : w11.cell? ⟨w8.heap.size, 0, none⟩ = some (.slice Ak key.length Ck) := heap_cell BX.out 0
              have x1 : w11.cell? ⟨w8.heap.size, 1, none⟩ = some (.slice A acc2.length C) := heap_cell BX.out 1
              have HO := Lib.hid (row_kt hrow (Kt.kp (Ts := [51]) ((Kp.refl [] w11).alloc (.cells #[.slice Ak key.length Ck, .slice A acc2.length C] 51))) (by decide))
              have HRW := Lib.hid hrow
              have HAL := Lib.hid hall
              have HAC := Lib.hid (show acc.length ≤ 1099511627776 by have := HAB.out; omega)
              have KW11 := Lib.hid J11.out.kp
              have K11 := Lib.hid k11
              clear h7 hrow hall k11
              by_cases he2 : e2 = 0
              · subst he2
                go_wp2_with (first | (at_builtin; refine app_p rfl (.tmp 68) (.tmp 70) pi_rsteps rfl w.heap.size HO.out (lit_sl w11 _ _ _) (by rfl) (by rfl) HAC.out (by have := KW11.out.size; simp; omega) ?_; intro A9 C9 w12 hrow9 hg9; have H9 := Lib.hid hrow9; have HG9 := Lib.hid hg9; have KTP := Lib.hid ((Kt.kp (Ts := [5, 76, 27]) ((Kp.refl [] w11).alloc (.cells #[.slice Ak key.length Ck, .slice A acc2.length C] 51))).trans (row_ktG HO.out HG9.out (by decide))); have B9 := Lib.hid (KTP.out _ _ _ _ B7.out (by decide)); have y6 : w12.cell? ⟨w3.heap.size + 1, 6, none⟩ = some (.slice A7 acc.length C7) := heap_cell B9.out 6; have g6 := heap_free B9.out 6; have QS2 := Lib.hid ((QS.out.kt KTP.out (by decide) (by decide)).set B9.out (by decide) 6 (.slice A9 (acc.length + 1) C9)); have QT2 := Lib.hid ((QT.out.kt KTP.out (by decide) (by decide)).set B9.out (by decide) 6 (.slice A9 (acc.length + 1) C9)); have hE2 := QS2.out.err; clear hrow9 hg9) | (go_at_call 28; refine (qend_any QT2.out).mono ?_; rintro en w14 ⟨rfl, n14, hw14⟩; have k14 := Lib.hid (show Kp [] _ w14 from hw14 ▸ Kp.drewNs n14); clear hw14))
                go_roundw
                case rel =>
                  have h2 := J11.out.add (W4 := w14) B7.out HRW.out HAL.out OK.out SX.out H9.out HG9.out (by have := HB7.out; omega) (Nat.le_of_lt HB7.out) k14.out
                  refine ⟨acc ++ [(key, acc2)], y2, 0, (endOf ys e3 == 0), rfl, h2, QS2.out.kp k14.out, fun _ => rfl, ?_, ?_⟩
                  · intro _; have := HAB.out; have := itStep_dec xs (by rw [HIT.out]); rw [HIT.out] at this; simp only at this; rw [List.length_append]; simp; omega
                  · rw [HS.out, stepsR_step xs hpos.out, HIT.out, hpe.out]
                    simp [tOk, hee.out]
                    exact ⟨rfl, rfl⟩
                case measure =>
                  cases endOf ys e3 == 0
                  · exact Nat.succ_pos _
                  · show rqM w14 rs + 1 < rqM W0 rs + 1
                    rw [(QS2.out.kp k14.out).measure, HQ.out.measure]
                    have := itStep_dec xs (by rw [HIT.out])
                    rw [HIT.out] at this
                    simp only at this
                    omega
              · have t2 : (e2 == 0) = false := by simpa using he2
                have HE2 := Lib.hid he2
                clear he2
                go_wp2_with (at_builtin; refine app_p rfl (.tmp 68) (.tmp 70) pi_rsteps rfl w.heap.size HO.out (lit_sl w11 _ _ _) (by rfl) (by rfl) HAC.out (by have := KW11.out.size; simp; omega) ?_; intro A9 C9 w12 hrow9 hg9; have H9 := Lib.hid hrow9; have HG9 := Lib.hid hg9; have KTP := Lib.hid ((Kt.kp (Ts := [5, 76, 27]) ((Kp.refl [] w11).alloc (.cells #[.slice Ak key.length Ck, .slice A acc2.length C] 51))).trans (row_ktG HO.out HG9.out (by decide))); have B9 := Lib.hid (KTP.out _ _ _ _ B7.out (by decide)); have y6 : w12.cell? ⟨w3.heap.size + 1, 6, none⟩ = some (.slice A7 acc.length C7) := heap_cell B9.out 6; have g6 := heap_free B9.out 6; have QS2 := Lib.hid ((QS.out.kt KTP.out (by decide) (by decide)).set B9.out (by decide) 6 (.slice A9 (acc.length + 1) C9)); have QT2 := Lib.hid ((QT.out.kt KTP.out (by decide) (by decide)).set B9.out (by decide) 6 (.slice A9 (acc.length + 1) C9)); have hE2 := QS2.out.err; clear hrow9 hg9)
                go_roundw
                case rel =>
                  have h2 := J11.out.add (W4 := _) B7.out HRW.out HAL.out OK.out SX.out H9.out HG9.out (by have := HB7.out; omega) (Nat.le_of_lt HB7.out) (Kp.refl _ _)
                  refine ⟨acc ++ [(key, acc2)], y2, e2, false, rfl, h2, QS2.out, (fun h => by cases h), ?_, ?_⟩
                  · intro h; cases h
                  · rw [HS.out, stepsR_step xs hpos.out, HIT.out, hpe.out]
                    simp [tOk, hee.out, HE2.out]

                case measure =>
                  exact Nat.succ_pos _
      · have hx0 : xs.length = 0 := by omega
        rw [hx0, show ((0 : Nat) : Int) = 0 from rfl] at hL
        have HA := Lib.hid (show rSt bs = (acc, true) by rw [HS.out, stepsR_stop _ _ (by omega)]; simp)
        obtain ⟨A5, C5, h7, hso⟩ := HJ.out.h7
        have B7 := Lib.hid h7
        have HSO := Lib.hid hso
        have hPV : PathV W0 (.agg #[.slice A0 l.enc.length C0, .slice A1 l.sig.length C1, .slice A2 l.name.length C2, .int .i64 l.src, .slice A3 l.hash.length C3, .slice A4 l.sgn.length C4, .slice A5 acc.length C5]) l acc := ⟨A0, A1, A2, A3, A4, A5, C0, C1, C2, C3, C4, C5, rfl, ⟨A0, A1, A2, A3, A4, C0, C1, C2, C3, C4, rfl, HJ.out.o0.bs, HJ.out.o1.bs, HJ.out.o2.bs, HJ.out.o3.bs, HJ.out.o4.bs⟩, hso.read⟩
        have HPV := Lib.hid hPV
        clear h7 hso hx0 hlt hPV
        go_wp2_with fail
        refine hL.mono ?_
        rintro en w7 ⟨rfl, n7, hw7⟩
        have k7 : Kp [] W0 w7 := hw7 ▸ Kp.drewNs n7
        clear hw7
        have B7' := Lib.hid (k7.obj B7.out (by simp))
        have Z7' := Lib.hid (k7.obj Z5.out (by simp))
        have s0 : w7.cell? ⟨w3.heap.size + 1, 0, none⟩ = some (.slice A0 l.enc.length C0) := heap_cell B7'.out 0
        have s1 : w7.cell? ⟨w3.heap.size + 1, 1, none⟩ = some (.slice A1 l.sig.length C1) := heap_cell B7'.out 1
        have s2 : w7.cell? ⟨w3.heap.size + 1, 2, none⟩ = some (.slice A2 l.name.length C2) := heap_cell B7'.out 2
        have s3 : w7.cell? ⟨w3.heap.size + 1, 3, none⟩ = some (.int .i64 l.src) := heap_cell B7'.out 3
        have s4 : w7.cell? ⟨w3.heap.size + 1, 4, none⟩ = some (.slice A3 l.hash.length C3) := heap_cell B7'.out 4
        have s5 : w7.cell? ⟨w3.heap.size + 1, 5, none⟩ = some (.slice A4 l.sgn.length C4) := heap_cell B7'.out 5
        have s6 : w7.cell? ⟨w3.heap.size + 1, 6, none⟩ = some (.slice A5 acc.length C5) := heap_cell B7'.out 6
        have hR := rRight_any (HPV.out.kp k7)
        have KK7 := Lib.hid k7
        cases hrp : rightP l acc
        · rw [hrp] at hR
          have HNO := Lib.hid (show ¬ refOk bs from fun h => by
            have h2 := h.2.2
            rw [HA.out, ← HLe.out, hrp] at h2
            cases h2)
          clear hrp k7
          go_wp2_with fail
          refine hR.mono ?_
          rintro en w8 ⟨rfl, k8⟩
          have Z8 := Lib.hid (k8.obj Z7'.out (by simp))
          have t0 : w8.cell? ⟨w.heap.size, 0, none⟩ = some (.slice none 0 0) := heap_cell Z8.out 0
          have g0 := heap_free Z8.out 0
          have t1 : w8.cell? ⟨w.heap.size, 1, none⟩ = some (.slice none 0 0) := heap_cell Z8.out 1
          have g1 := heap_free Z8.out 1
          have t2 : w8.cell? ⟨w.heap.size, 2, none⟩ = some (.slice none 0 0) := heap_cell Z8.out 2
          have g2 := heap_free Z8.out 2
          have t3 : w8.cell? ⟨w.heap.size, 3, none⟩ = some (.int .i64 0) := heap_cell Z8.out 3
          have g3 := heap_free Z8.out 3
          have t4 : w8.cell? ⟨w.heap.size, 4, none⟩ = some (.slice none 0 0) := heap_cell Z8.out 4
          have g4 := heap_free Z8.out 4
          have t5 : w8.cell? ⟨w.heap.size, 5, none⟩ = some (.slice none 0 0) := heap_cell Z8.out 5
          have g5 := heap_free Z8.out 5
          have t6 : w8.cell? ⟨w.heap.size, 6, none⟩ = some (.slice none 0 0) := heap_cell Z8.out 6
          have g6 := heap_free Z8.out 6
          have K7 := set7_kp w8 w.heap.size (.slice none 0 0) (.slice none 0 0) (.slice none 0 0) (.int .i64 0) (.slice none 0 0) (.slice none 0 0) (.slice none 0 0)
          go_wp2
          exact bodyPost_ret (v := .tuple #[.agg #[.slice none 0 0, .slice none 0 0, .slice none 0 0, .int .i64 0, .slice none 0 0, .slice none 0 0, .slice none 0 0], .int .i64 21]) (by simp [results, Tryd.results9, go_sem, t0, t1, t2, t3, t4, t5, t6]) rfl (GetPathRPost.no HNO.out (((HJ.out.kp.trans KK7.out).trans k8).old K7 (by intro x hx; simp at hx; omega)))
        · rw [hrp] at hR
          have HYES := Lib.hid (show refOk bs from ⟨hleaf, by rw [HA.out], by rw [HA.out, ← HLe.out, hrp]⟩)
          clear hrp k7
          go_wp2_with fail
          refine hR.mono ?_
          rintro en w8 ⟨rfl, k8⟩
          have Z8 := Lib.hid (k8.obj Z7'.out (by simp))
          have B8 := Lib.hid (k8.obj B7'.out (by simp))
          have hne : w.heap.size ≠ w3.heap.size + 1 := by have := HB7.out; omega
          have t0 : w8.cell? ⟨w.heap.size, 0, none⟩ = some (.slice none 0 0) := heap_cell Z8.out 0
          have g0 := heap_free Z8.out 0
          have t1 : w8.cell? ⟨w.heap.size, 1, none⟩ = some (.slice none 0 0) := heap_cell Z8.out 1
          have g1 := heap_free Z8.out 1
          have t2 : w8.cell? ⟨w.heap.size, 2, none⟩ = some (.slice none 0 0) := heap_cell Z8.out 2
          have g2 := heap_free Z8.out 2
          have t3 : w8.cell? ⟨w.heap.size, 3, none⟩ = some (.int .i64 0) := heap_cell Z8.out 3
          have g3 := heap_free Z8.out 3
          have t4 : w8.cell? ⟨w.heap.size, 4, none⟩ = some (.slice none 0 0) := heap_cell Z8.out 4
          have g4 := heap_free Z8.out 4
          have t5 : w8.cell? ⟨w.heap.size, 5, none⟩ = some (.slice none 0 0) := heap_cell Z8.out 5
          have g5 := heap_free Z8.out 5
          have t6 : w8.cell? ⟨w.heap.size, 6, none⟩ = some (.slice none 0 0) := heap_cell Z8.out 6
          have g6 := heap_free Z8.out 6
          have u0 : w8.cell? ⟨w3.heap.size + 1, 0, none⟩ = some (.slice A0 l.enc.length C0) := heap_cell B8.out 0
          have u1 : w8.cell? ⟨w3.heap.size + 1, 1, none⟩ = some (.slice A1 l.sig.length C1) := heap_cell B8.out 1
          have u2 : w8.cell? ⟨w3.heap.size + 1, 2, none⟩ = some (.slice A2 l.name.length C2) := heap_cell B8.out 2
          have u3 : w8.cell? ⟨w3.heap.size + 1, 3, none⟩ = some (.int .i64 l.src) := heap_cell B8.out 3
          have u4 : w8.cell? ⟨w3.heap.size + 1, 4, none⟩ = some (.slice A3 l.hash.length C3) := heap_cell B8.out 4
          have u5 : w8.cell? ⟨w3.heap.size + 1, 5, none⟩ = some (.slice A4 l.sgn.length C4) := heap_cell B8.out 5
          have u6 : w8.cell? ⟨w3.heap.size + 1, 6, none⟩ = some (.slice A5 acc.length C5) := heap_cell B8.out 6
          have K7 := set7_kp w8 w.heap.size (.slice A0 l.enc.length C0) (.slice A1 l.sig.length C1) (.slice A2 l.name.length C2) (.int .i64 l.src) (.slice A3 l.hash.length C3) (.slice A4 l.sgn.length C4) (.slice A5 acc.length C5)
          have KT : Kt [5, 56, 51] w8 (set7 w8 w.heap.size (.slice A0 l.enc.length C0) (.slice A1 l.sig.length C1) (.slice A2 l.name.length C2) (.int .i64 l.src) (.slice A3 l.hash.length C3) (.slice A4 l.sgn.length C4) (.slice A5 acc.length C5)) := Kt.one K7 Z8.out (by decide)
          have KA : Kp [] W0 w8 := KK7.out.trans k8
          have J0 := HJ.out
          have oo : ∀ {v xs}, Ob w.heap.size W0 v xs → Ob w.heap.size (set7 w8 w.heap.size (.slice A0 l.enc.length C0) (.slice A1 l.sig.length C1) (.slice A2 l.name.length C2) (.int .i64 l.src) (.slice A3 l.hash.length C3) (.slice A4 l.sgn.length C4) (.slice A5 acc.length C5)) v xs := fun h => (h.kp KA (by simp)).kt KT (by decide)
          go_wp2
          refine bodyPost_ret (v := .tuple #[.agg #[.slice A0 l.enc.length C0, .slice A1 l.sig.length C1, .slice A2 l.name.length C2, .int .i64 l.src, .slice A3 l.hash.length C3, .slice A4 l.sgn.length C4, .slice A5 acc.length C5], .int .i64 0]) (by simp [results, Tryd.results9, go_sem, t0, t1, t2, t3, t4, t5, t6]) rfl (GetPathRPost.yes HYES.out ?_ ((J0.kp.trans KA).old K7 (by intro x hx; simp at hx; omega)))
          rw [← HLe.out, HA.out]
          exact ⟨A0, A1, A2, A3, A4, A5, C0, C1, C2, C3, C4, C5, rfl, oo J0.o0, oo J0.o1, oo J0.o2, oo J0.o3, oo J0.o4, (HSO.out.kt (Kt.kp (Ts := [5, 56, 51]) KA) (by decide) (by decide) (by decide)).kt KT (by decide) (by decide) (by decide)⟩
end Go.Proofs.YtgmdcmkokdbeoaaDoor
