/- GetPath. -/
import Derived.Test.YtgmdcmkokdbeoaaDoorPathF
set_option linter.unusedVariables false
namespace Go.Proofs.YtgmdcmkokdbeoaaDoor
open Go.RowKit Go.Shelf
attribute [local go_sem] Oper.semAt_some

/-- A path, all the call's own. -/
def PathO (base : Nat) (w : World) (v : Value) (l : LeafD) (ss : List StepD) : Prop := ∃ A0 A1 A2 A3 A4 A5 C0 C1 C2 C3 C4 C5,
  v = .agg (pathCells A0 A1 A2 A3 A4 A5 C0 C1 C2 C3 C4 C5 l ss.length) ∧
  Ob base w (.slice A0 l.enc.length C0) l.enc ∧ Ob base w (.slice A1 l.sig.length C1) l.sig ∧ Ob base w (.slice A2 l.name.length C2) l.name ∧ Ob base w (.slice A3 l.hash.length C3) l.hash ∧ Ob base w (.slice A4 l.sgn.length C4) l.sgn ∧
  StepsO 57 54 base w (.slice A5 ss.length C5) ss
theorem PathO.read {base : Nat} {w : World} {v : Value} {l : LeafD} {ss : List StepD} (h : PathO base w v l ss) : PathV w v l ss := by
  obtain ⟨A0, A1, A2, A3, A4, A5, C0, C1, C2, C3, C4, C5, rfl, o0, o1, o2, o3, o4, os⟩ := h
  exact ⟨A0, A1, A2, A3, A4, A5, C0, C1, C2, C3, C4, C5, rfl, ⟨A0, A1, A2, A3, A4, C0, C1, C2, C3, C4, rfl, o0.bs, o1.bs, o2.bs, o3.bs, o4.bs⟩, os.read⟩
theorem PathO.nil (base : Nat) (w : World) : PathO base w (.agg #[.slice none 0 0, .slice none 0 0, .slice none 0 0, .int .i64 0, .slice none 0 0, .slice none 0 0, .slice none 0 0]) leafZ [] :=
  ⟨none, none, none, none, none, none, 0, 0, 0, 0, 0, 0, rfl, Ob.nil _ _, Ob.nil _ _, Ob.nil _ _, Ob.nil _ _, Ob.nil _ _, StepsO.nil _ _ _ _⟩

/-- The steps that bytes hold. -/
def stepsOf (ps : List SealD) : List StepD := ps.map fun p => (p.1, pairs p.2)
theorem stepsOf_snoc (ps : List SealD) (p : SealD) : stepsOf (ps ++ [p]) = stepsOf ps ++ [(p.1, pairs p.2)] := by simp [stepsOf]
/-- What is read as a path. -/
def rdPathL (bs : List UInt8) : LeafD := getLeafL (v1 bs 0).1
def rdPathS (bs : List UInt8) : List StepD := stepsOf (pairs (v1 (v1 bs 0).2.1 (v1 bs 0).2.2).1)
def okPath (bs : List UInt8) : Prop := rightP (rdPathL bs) (rdPathS bs) = true ∧ pathB (rdPathL bs) (rdPathS bs) = bs
instance (bs : List UInt8) : Decidable (okPath bs) := by unfold okPath; infer_instance
def getPathL (bs : List UInt8) : LeafD := if okPath bs then rdPathL bs else leafZ
def getPathS (bs : List UInt8) : List StepD := if okPath bs then rdPathS bs else []
def getPathE (bs : List UInt8) : Int := if okPath bs then 0 else 21
def GetPathPost (w : World) (bs : List UInt8) (e : Ending) (w' : World) : Prop :=
  ∃ v, e = .returned (.tuple #[v, .int .i64 (getPathE bs)]) ∧ PathO w.heap.size w' v (getPathL bs) (getPathS bs) ∧ Kp [] w w'

/-- Seven cells are written. -/
def set7 (U : World) (b : Nat) (u0 u1 u2 u3 u4 u5 u6 : Value) : World :=
  ((((((U.setCell ⟨b, 0, none⟩ u0).setCell ⟨b, 1, none⟩ u1).setCell ⟨b, 2, none⟩ u2).setCell ⟨b, 3, none⟩ u3).setCell ⟨b, 4, none⟩ u4).setCell ⟨b, 5, none⟩ u5).setCell ⟨b, 6, none⟩ u6
theorem set7_kp (U : World) (b : Nat) (u0 u1 u2 u3 u4 u5 u6 : Value) : Kp [b] U (set7 U b u0 u1 u2 u3 u4 u5 u6) :=
  (((((((Kp.refl [b] U).setCell ⟨b, 0, none⟩ u0 (by simp)).setCell ⟨b, 1, none⟩ u1 (by simp)).setCell ⟨b, 2, none⟩ u2 (by simp)).setCell ⟨b, 3, none⟩ u3 (by simp)).setCell ⟨b, 4, none⟩ u4 (by simp)).setCell ⟨b, 5, none⟩ u5 (by simp)).setCell ⟨b, 6, none⟩ u6 (by simp)
theorem set7_heap {U : World} {b : Nat} {v0 v1 v2 v3 v4 v5 v6 : Value} {t : TypeId} {f : Nat × Nat} (h : U.heap[b]? = some (.cells #[v0, v1, v2, v3, v4, v5, v6] t f)) (u0 u1 u2 u3 u4 u5 u6 : Value) :
    (set7 U b u0 u1 u2 u3 u4 u5 u6).heap[b]? = some (.cells #[u0, u1, u2, u3, u4, u5, u6] t f) := by
  have h6 := heap_set (heap_set (heap_set (heap_set (heap_set (heap_set (heap_set h 0 u0) 1 u1) 2 u2) 3 u3) 4 u4) 5 u5) 6 u6
  simp only [List.setIfInBounds_toArray, List.set_cons_zero, List.set_cons_succ] at h6
  unfold set7
  exact h6
/-- A function with one mark returns. -/
theorem marks_ret {F : Fence} {n : Nat} {P : Program} {fn : Func} {R : Ending → World → Prop} {tmps : Array Value} {D : Nat} {w : World} {v : Value} (hD : w.heap[D]? = some (.deferred (some [])))
    (hr : (results fn tmps).run P (w.putObj D (.deferred none)) = .ok v (w.putObj D (.deferred none))) (h : R (.returned v) (w.putObj D (.deferred none))) :
    bodyPostM F n P fn R .ret { tmps := tmps, defers := [{ target := .collected D, args := #[] }] } w :=
  ⟨by simp, .inl ⟨_, _, rfl, run_takeDeferred hD, ⟨v, hr, h⟩⟩⟩

set_option maxRecDepth 100000 in
set_option maxHeartbeats 4000000 in
theorem getPath_any {w : World} {bv : Value} {bs : List UInt8} (hb : Bs w bv bs) (hlen : bs.length ≤ 1099511627776) : Calls Tryd.prog 8 #[bv] w (GetPathPost w bs) := by
  refine (callsIn_wide (n := 0)).1 ?_
  have K0 := Lib.hid ((Kp.refl [] w).alloc pathZ)
  have HZ := Lib.hid (heap_alloc_new w pathZ)
  have hN := new_any (hb.kp K0.out) (by omega)
  refine callsIn_of_wp_marks Tryd.func8 rfl trivial ?_ rfl
  simp only [Tryd.ntmps8, List.size_toArray, List.length_cons, List.length_nil, Nat.reduceAdd, Nat.reduceSub, Array.replicate_succ, Array.replicate_zero, List.push_toArray, List.append_toArray, List.nil_append, List.cons_append]
  gi_wp2_with fail
  refine ⟨trivial, rfl, (callsIn_wide.2 hN).mono ?_⟩
  rintro en w1 ⟨r, rfl, hr, k1, r1⟩
  rcases hA : v1 bs 0 with ⟨va, ya, ea⟩
  rcases hB : v1 ya ea with ⟨vb, yb, eb⟩
  have la := v1_len bs 0
  rw [hA] at la
  simp only at la
  have lb := v1_len ya ea
  rw [hB] at lb
  simp only at lb
  have hV1 := v1_any r1 (by omega)
  rw [hA] at hV1
  gi_wp2_with fail
  refine ⟨trivial, rfl, (callsIn_wide.2 hV1).mono ?_⟩
  rintro en w2 ⟨Aa, Ca, rfl, k2, oa, r2⟩
  gi_wp2_with fail
  refine ⟨trivial, rfl, (callsIn_wide.2 (getLeaf_any oa.bs (by omega))).mono ?_⟩
  rintro en w3 ⟨v, rfl, ⟨A0, A1, A2, A3, A4, C0, C1, C2, C3, C4, rfl, o0, o1, o2, o3, o4⟩, k3⟩
  have z1 := hr
  simp only [World.size_alloc] at z1
  have hE : Hid (rdPathL bs = getLeafL va) := by unfold Hid rdPathL; rw [hA]
  have hS : Hid (rdPathS bs = stepsOf (pairs vb)) := by unfold Hid rdPathS; rw [hA, hB]
  generalize getLeafL va = L at *
  generalize getLeafE va = eL at *
  have K3 := Lib.hid ((((Kp.refl [] w3).alloc (.cells #[.slice A0 L.enc.length C0, .slice A1 L.sig.length C1, .slice A2 L.name.length C2, .int .i64 L.src, .slice A3 L.hash.length C3, .slice A4 L.sgn.length C4] 29)).alloc (.cells (pathCells A0 A1 A2 A3 A4 none C0 C1 C2 C3 C4 0 L 0) 32)))
  have hV2 := v1_any ((r2.kp k3).kp K3.out) (by omega)
  rw [hB] at hV2
  unfold pathCells at hV2
  gi_wp2_with fail
  refine ⟨trivial, rfl, (callsIn_wide.2 hV2).mono ?_⟩
  rintro en w4 ⟨Ab, Cb, rfl, k4, ob, r4⟩
  gi_wp2_with fail
  refine ⟨trivial, rfl, (callsIn_wide.2 (new_any ob.bs (by omega))).mono ?_⟩
  rintro en w5 ⟨q, rfl, hq, k5, r5⟩
  gi_wp2_with fail
  refine ⟨trivial, rfl, (callsIn_wide.2 (read_any w5 q)).mono ?_⟩
  rintro en w6 ⟨rfl, rfl⟩
  gi_wp2_with fail
  have hrw : w.heap.size ≤ r := by omega
  have x1 : Kp [] w w1 := K0.out.trans k1
  have x2 : Kp [] w w2 := x1.old k2 (by intro x hx; simp at hx; omega)
  have x3 : Kp [] w w3 := x2.trans k3
  have x4' := x3.trans K3.out
  have x4 : Kp [] w w4 := x4'.old k4 (by intro x hx; simp at hx; omega)
  have x5 : Kp [] w w5 := x4.trans k5
  have x6 := x5.alloc (.cells #[.pointer (some ⟨q, 0, none⟩)] 62)
  have zw1 := x1.size
  have zw2 := k2.size
  have zw3 := k3.size
  have zw4 := k4.size
  have zw5 := k5.size
  simp only [World.size_alloc] at zw4
  have hqw : w.heap.size ≤ q := by omega
  have hr3 : (w3.heap.size + 1) ∉ [r] := by have := r2.lt; simp; omega
  have hr2 : w.heap.size ∉ [r] := by simp; omega
  have hz6 : (w5.alloc (.cells #[.pointer (some ⟨q, 0, none⟩)] 62)).heap[w.heap.size]? = some pathZ :=
    alloc_obj (k5.obj (k4.obj (K3.out.obj (k3.obj (k2.obj (k1.obj HZ.out (by simp)) hr2) (by simp)) (by simp)) hr2) (by simp)) _
  have hp6 : (w5.alloc (.cells #[.pointer (some ⟨q, 0, none⟩)] 62)).heap[w3.heap.size + 1]? = some (.cells (pathCells A0 A1 A2 A3 A4 none C0 C1 C2 C3 C4 0 L 0) 32 (0, 0)) :=
    alloc_obj (k5.obj (k4.obj (alloc2_last w3 _ _) hr3) (by simp)) _
  have hb6 : (w5.alloc (.cells #[.pointer (some ⟨q, 0, none⟩)] 62)).heap[w5.heap.size]? = some (.cells #[.pointer (some ⟨q, 0, none⟩)] 62 (0, 0)) := heap_alloc_new _ _
  have hq6 := r5.kp ((Kp.refl [] w5).alloc (.cells #[.pointer (some ⟨q, 0, none⟩)] 62))
  have q4 : ∀ {v xs}, Ob w2.heap.size w3 v xs → Ob w.heap.size (w5.alloc (.cells #[.pointer (some ⟨q, 0, none⟩)] 62)) v xs := fun h =>
    ((((h.mono (show w.heap.size ≤ w2.heap.size by omega)).kp K3.out (by simp)).step k4 ((r2.kp k3).kp K3.out)).kp k5 (by simp)).kp ((Kp.refl [] w5).alloc _) (by simp)
  have y0 := q4 o0
  have y1 := q4 o1
  have y2 := q4 o2
  have y3 := q4 o3
  have y4 := q4 o4
  have hbsz : w5.heap.size < (w5.alloc (.cells #[.pointer (some ⟨q, 0, none⟩)] 62)).heap.size := by simp
  clear q4
  generalize w5.alloc (.cells #[.pointer (some ⟨q, 0, none⟩)] 62) = w6 at *
  have HV := Lib.hid (show vb.length ≤ 35184372088832 by omega)
  have G0 : ∀ rec, GpJ w w.heap.size (w3.heap.size + 1) (w6.heap.size + 1) w6.heap.size rec A0 A1 A2 A3 A4 C0 C1 C2 C3 C4 L [] (laidW w6 rec) := fun rec => by
    have kL : Kp [] w6 (laidW w6 rec) := ((Kp.refl [] w6).alloc _).alloc _
    exact ⟨x6.trans kL, kL.obj hz6 (by simp), ⟨none, 0, kL.obj hp6 (by simp), StepsO.nil _ _ _ _⟩, y0.kp kL (by simp), y1.kp kL (by simp), y2.kp kL (by simp), y3.kp kL (by simp), y4.kp kL (by simp),
      alloc2_last w6 _ _, alloc2_get w6 _ _⟩
  refine range_outer (K := fun W2 => ∃ rec, GpJ w w.heap.size (w3.heap.size + 1) (w6.heap.size + 1) w6.heap.size rec A0 A1 A2 A3 A4 C0 C1 C2 C3 C4 L (stepsOf (pairs vb)) W2) rfl (fun h => by cases h) (gf := 51) (lb := #[.pointer (some ⟨w5.heap.size, 0, none⟩)]) rfl trivial (enters_of Tryd.func51 (by kernel_rfl) rfl) ?_ ?_
  · intro fn hfn
    generalize hrec : recOf fn _ _ _ _ w6.heap.size = rec
    refine (read_in (l := w6.heap.size + 1) (b := w5.heap.size) (r := q) (base := w.heap.size) HV.out (J := fun pre W => GpJ w w.heap.size (w3.heap.size + 1) (w6.heap.size + 1) w6.heap.size rec A0 A1 A2 A3 A4 C0 C1 C2 C3 C4 L (stepsOf pre) W) ?_ ?_ ?_ ?_ ?_ ?_).mono ?_
    · intro pre x W v1 v2 hpl hx1 hx2 hj hbW ox oy
      obtain ⟨Ax, Cx, rfl⟩ := ox.shape
      obtain ⟨Ay, Cy, rfl⟩ := oy.shape
      have hJ := Lib.hid hj
      have hjl := hj.hl
      have hst : rec.state = .ready ∧ rec.pending = none := by rw [← hrec]; exact ⟨rfl, rfl⟩
      refine yield_round' (rec := rec) (by rewrite [← hrec]; exact recOf_assign ..) (by rewrite [← hrec]; exact recOf_body ..) (by rewrite [← hrec]; exact recOf_params ..) (by rewrite [← hrec]; exact recOf_tmps ..) hjl trivial rfl hst.1 hst.2 ?_
      clear hrec
      gi_wp2_with fail
      refine ⟨hjl, ?_⟩
      have hjB : GpJ w w.heap.size (w3.heap.size + 1) (w6.heap.size + 1) w6.heap.size (busy rec) A0 A1 A2 A3 A4 C0 C1 C2 C3 C4 L (stepsOf pre) (W.putObj (w6.heap.size + 1) (.loop (busy rec))) :=
        hj.kt (Kt.loop hjl _) (hj.kp.putObj _ _ (.inr (by omega))) (World.putObj_heap_same (Array.getElem?_eq_some_iff.1 hjl).1) (put_obj hj.hD _ _ (by omega))
      have hkW : Kt [5, 99, 62] W (W.putObj (w6.heap.size + 1) (.loop (busy rec))) := Kt.loop hjl _
      have kpW : Kp [w6.heap.size + 1] W (W.putObj (w6.heap.size + 1) (.loop (busy rec))) := (Kp.refl _ W).putObj _ _ (by simp)
      have hsW : (W.putObj (w6.heap.size + 1) (.loop (busy rec))).heap.size = W.heap.size := World.putObj_size ..
      have ox1 : Ob w.heap.size (W.putObj (w6.heap.size + 1) (.loop (busy rec))) (.slice Ax x.1.length Cx) x.1 := ox.kt hkW (by decide)
      have oy1 : Ob w.heap.size (W.putObj (w6.heap.size + 1) (.loop (busy rec))) (.slice Ay x.2.length Cy) x.2 := oy.kt hkW (by decide)
      have OX := Lib.hid ox
      clear hjl hj hst ox oy
      generalize W.putObj (w6.heap.size + 1) (.loop (busy rec)) = W1 at *
      have hN2 := new_any (oy1.bs.kp ((Kp.refl [] W1).alloc (.cells #[.slice Ax x.1.length Cx, .slice none 0 0] 54))) (by have := HV.out; omega)
      gi_wp2_with fail
      refine ⟨trivial, rfl, CallsIn.inRound _ ((callsIn_wide.2 hN2).mono ?_)⟩
      rintro en W2 ⟨r2', rfl, hr2', kN, rN⟩
      gi_wp2_with fail
      refine ⟨trivial, rfl, CallsIn.inRound _ ((callsIn_wide.2 (read_any W2 r2')).mono ?_)⟩
      rintro en W3 ⟨rfl, rfl⟩
      gi_wp2_with fail
      have hsz3 : (W2.alloc (.cells #[.pointer (some ⟨r2', 0, none⟩)] 62)).heap.size = W2.heap.size + 1 := World.size_alloc ..
      have zN := kN.size
      simp only [World.size_alloc] at zN hr2'
      have kX : Kp [] W1 (W2.alloc (.cells #[.pointer (some ⟨r2', 0, none⟩)] 62)) := ((((Kp.refl [] W1).alloc (.cells #[.slice Ax x.1.length Cx, .slice none 0 0] 54)).trans kN).alloc _)
      have hj3 := hjB.keep kX
      have kW3 := kpW.trans kX.nil
      have kt3 := hkW.trans (Kt.kp kX)
      have ox3 : Ob w.heap.size _ (.slice Ax x.1.length Cx) x.1 := ox1.kp kX (by simp)
      have h103 : (W2.alloc (.cells #[.pointer (some ⟨r2', 0, none⟩)] 62)).heap[W.heap.size]? = some (.cells #[.slice Ax x.1.length Cx, .slice none 0 0] 54 (0, 0)) :=
        alloc_obj (kN.obj (by have := heap_alloc_new W1 (.cells #[.slice Ax x.1.length Cx, .slice none 0 0] 54); rwa [hsW] at this) (by simp)) _
      have hb3 : (W2.alloc (.cells #[.pointer (some ⟨r2', 0, none⟩)] 62)).heap[W2.heap.size]? = some (.cells #[.pointer (some ⟨r2', 0, none⟩)] 62 (0, 0)) := heap_alloc_new _ _
      have rd3 := rN.kp ((Kp.refl [] W2).alloc (.cells #[.pointer (some ⟨r2', 0, none⟩)] 62))
      have hr2'' : W.heap.size ≤ r2' := by omega
      clear hN2 hjB kX kN
      generalize W2.alloc (.cells #[.pointer (some ⟨r2', 0, none⟩)] 62) = W3 at *
      refine range_inner (l₀ := w6.heap.size + 1) (r₀ := busy rec) (K := fun W' => ∃ rec2, GpI W (w6.heap.size + 1) (busy rec) W.heap.size W3.heap.size rec2 Ax Cx x.1 (pairs x.2) W') rfl hj3.hl (fun h => by cases h) (gf := 51) (lb := #[.pointer (some ⟨W2.heap.size, 0, none⟩)]) rfl trivial (enters_of Tryd.func51 (by kernel_rfl) rfl) ?_ ?_
      · intro fn2 hfn2
        generalize hrec2 : recOf fn2 _ _ _ _ _ = rec2
        refine CallsIn.inRound _ ((read_in (l := W3.heap.size) (b := W2.heap.size) (r := r2') (xs := x.2) (base := W.heap.size) (by have := HV.out; omega) (J := fun ps W' => GpI W (w6.heap.size + 1) (busy rec) W.heap.size W3.heap.size rec2 Ax Cx x.1 ps W') ?_ ?_ ?_ ?_ ?_ ?_).mono ?_)
        · intro ps y U v1 v2 hql hy1 hy2 hi hbU ou ov
          obtain ⟨Au, Cu, rfl⟩ := ou.shape
          obtain ⟨Av, Cv, rfl⟩ := ov.shape
          have hst2 : rec2.state = .ready ∧ rec2.pending = none := by rw [← hrec2]; exact ⟨rfl, rfl⟩
          refine yield_round' (rec := rec2) (by rewrite [← hrec2]; exact recOf_assign ..) (by rewrite [← hrec2]; exact recOf_body ..) (by rewrite [← hrec2]; exact recOf_params ..) (by rewrite [← hrec2]; exact recOf_tmps ..) hi.hl2 trivial rfl hst2.1 hst2.2 ?_
          clear hrec2
          gi_wp2_with fail
          refine ⟨hi.hl2, ?_⟩
          have hlk : (W3.heap.size : Nat) ≠ w6.heap.size + 1 := by have := (Array.getElem?_eq_some_iff.1 hj3.hl).1; omega
          have hiB := hi.put (busy rec2) (by omega) hlk.symm
          have hkU : Kt [5, 99, 62] U (U.putObj W3.heap.size (.loop (busy rec2))) := Kt.loop hi.hl2 _
          have hsU : (U.putObj W3.heap.size (.loop (busy rec2))).heap.size = U.heap.size := World.putObj_size ..
          have ou1 : Ob W.heap.size (U.putObj W3.heap.size (.loop (busy rec2))) (.slice Au y.1.length Cu) y.1 := ou.kt hkU (by decide)
          have ov1 : Ob W.heap.size (U.putObj W3.heap.size (.loop (busy rec2))) (.slice Av y.2.length Cv) y.2 := ov.kt hkU (by decide)
          clear hi ou ov hst2
          generalize U.putObj W3.heap.size (.loop (busy rec2)) = U1 at *
          have HSU := Lib.hid hsU
          have HSZ := Lib.hid hsz3
          have HSW := Lib.hid hsW
          have HLK := Lib.hid hlk
          have hbU1 : W.heap.size ≤ U1.heap.size := by omega
          clear hsU hsz3 hsW hlk
          obtain ⟨kpU, hkk, ⟨A, C, h10, qs, hrow, hall⟩, hl2⟩ := hiB
          have d0 := heap_cell h10 0
          have d1 := heap_cell h10 1
          have df := heap_free h10 1
          simp at d0 d1
          have H10 := Lib.hid h10
          have HROW := Lib.hid hrow
          have HALL := Lib.hid hall
          clear h10 hrow hall
          have KA := Lib.hid ((Kp.refl [] U1).alloc (.cells #[.slice Au y.1.length Cu, .slice Av y.2.length Cv] 57))
          have HROW2 := Lib.hid (row_kt HROW.out (Kt.kp (Ts := builtT) KA.out) (by decide))
          gi_wp2_with (gi_at_builtin; refine appIn_p rfl (.tmp 39) (.tmp 43) pi_seals rfl W.heap.size HROW2.out (lit_sl U1 _ _ _) rfl rfl (by have := HV.out; omega) (by simp; omega) ?_; intro A' C' U3 hrow3 hg3; have HG3 := Lib.hid hg3; have HR3 := Lib.hid hrow3; have H3 := Lib.hid (row_ktG (Ts := [5, 99, 62, 54]) HROW2.out hg3 (by decide) _ _ _ _ (alloc_obj H10.out _) (by decide)); have d3 := heap_cell H3.out 1; have f3 := heap_free H3.out 1; simp at d3)
          have ktG := row_ktG (Ts := [5, 99, 62, 54]) HROW2.out HG3.out (by decide)
          have kp3 := row_kpG (kpU.trans KA.out.nil) HROW2.out HG3.out (Nat.le_refl _)
          have kA : Kt [5, 99, 62, 54] U1 _ := Kt.kp KA.out
          have kS : Kt [5, 99, 62, 57] U3 (U3.setCell ⟨W.heap.size, 1, none⟩ (.slice A' (ps.length + 1) C')) :=
            Kt.one ((Kp.refl [W.heap.size] U3).setCell _ _ (by simp)) H3.out (by decide)
          have kp4 := kp3.setCell ⟨W.heap.size, 1, none⟩ (.slice A' (ps.length + 1) C') (.inr (Nat.le_refl _))
          have hz3 := HG3.out.size
          simp only [World.size_alloc] at hz3
          have nl : ∀ {kk : Nat} {rr : Loop}, U1.heap[kk]? = some (.loop rr) → (U3.setCell ⟨W.heap.size, 1, none⟩ (.slice A' (ps.length + 1) C')).heap[kk]? = some (.loop rr) := fun {kk rr} h => by
            have h1 := alloc_obj h (.cells #[.slice Au y.1.length Cu, .slice Av y.2.length Cv] 57)
            have h2 : U3.heap[kk]? = some (.loop rr) := (HG3.out.block kk (Array.getElem?_eq_some_iff.1 h1).1 (fun e => by
              obtain ⟨_, cs, hc⟩ := row_block HROW2.out e.symm
              rw [hc] at h1; cases h1)).trans h1
            exact set_obj h2 _ _ _ (by rintro rfl; rw [H10.out] at h; cases h)
          have hk4 := nl hkk
          have hl4 := nl hl2
          refine ⟨hl4, ⟨?_, ?_, ?_, ?_⟩, ?_, ?_⟩
          · exact kp4.putObj _ _ (.inr (by have := HSZ.out; have := HSW.out; omega))
          · exact put_obj hk4 _ _ HLK.out.symm
          · have h4 : (U3.setCell ⟨W.heap.size, 1, none⟩ (.slice A' (ps.length + 1) C')).heap[W.heap.size]? = some (.cells #[.slice Ax x.1.length Cx, .slice A' (ps.length + 1) C'] 54 (0, 0)) := heap_set H3.out 1 _
            refine ⟨A', C', by rw [List.length_append]; exact put_obj h4 _ _ (by have := HSZ.out; have := HSW.out; omega), ?_⟩
            exact (SealsO.add HALL.out ou1 ov1 (kA.trans ktG) (by decide) HR3.out).kt (kS.trans (Kt.loop hl4 _)) (by decide) (by decide)
          · exact World.putObj_heap_same (Array.getElem?_eq_some_iff.1 hl4).1
          · exact (((hkU.trans (kA.sub (by decide))).trans (ktG.sub (by decide))).trans (kS.sub (by decide))).trans (Kt.loop hl4 _)
          · have := HSU.out; omega
        · exact fun ps U U' ys e hi hrd k => hi.step k hrd (by omega)
        · exact alloc_obj hb3 _
        · exact rd3.kp ((Kp.refl [] W3).alloc _)
        · simp; omega
        · have kL : Kp [] W3 (W3.alloc (.loop rec2)) := (Kp.refl [] W3).alloc _
          exact ⟨kW3.trans kL.nil, kL.obj hj3.hl (by simp), ⟨none, 0, kL.obj h103 (by simp), SealsO.nil _ _ _⟩, heap_alloc_new _ _⟩
        · rintro e U ⟨hv, hi⟩
          exact ⟨hv, hi.hl2, _, hi⟩
      · rintro _ U X hlU ⟨rec2, hi⟩
        have hi1 := hi.put X (by omega) (by have := (Array.getElem?_eq_some_iff.1 hj3.hl).1; omega)
        clear hi hlU
        generalize U.putObj W3.heap.size (.loop X) = U1 at *
        obtain ⟨kpU, hkk, ⟨A, C, h10, hse⟩, hl2⟩ := hi1
        have hJU := hJ.out.kt (Kt.of_kp kpU (by intro b hb cs t f hc; simp at hb; subst hb; rw [hJ.out.hl] at hc; cases hc)) (hJ.out.kp.old kpU (by intro x hx; simp at hx; omega)) hkk (kpU.obj hJ.out.hD (by simp))
        have hzU := kpU.size
        have ktU : Kt [5, 99, 62] W U1 := Kt.of_kp kpU (by intro b hb cs t f hc; simp at hb; subst hb; rw [hJ.out.hl] at hc; cases hc)
        obtain ⟨A', C', h7, qs, hrow, hall⟩ := hJU.h7
        have d0 := heap_cell h10 0
        have d1 := heap_cell h10 1
        have e6 := heap_cell h7 6
        have e6f := heap_free h7 6
        simp [pathCells] at d0 d1 e6
        have H10 := Lib.hid h10
        have H7 := Lib.hid h7
        have HROW := Lib.hid hrow
        have HALL := Lib.hid hall
        have HSE := Lib.hid hse
        have hsl : (stepsOf pre).length = pre.length := by simp [stepsOf]
        have HSL := Lib.hid hsl
        have hbU : w.heap.size ≤ U1.heap.size := by omega
        have HSW := Lib.hid hsW
        have HSZ := Lib.hid hsz3
        clear h10 h7 hrow hall hse hsl hsW hsz3
        have KA := Lib.hid ((Kp.refl [] U1).alloc (.cells #[.slice Ax x.1.length Cx, .slice A (pairs x.2).length C] 54))
        have HROW2 := Lib.hid (row_kt HROW.out (Kt.kp (Ts := builtT) KA.out) (by decide))
        gi_wp2_with (gi_at_builtin; refine appIn_p rfl (.tmp 47) (.tmp 49) pi_steps rfl w.heap.size HROW2.out (lit_sl U1 _ _ _) rfl rfl (by have := HV.out; have := HSL.out; omega) (by simp; omega) ?_; intro A3' C3' U3 hrow3 hg3; have HG3 := Lib.hid hg3; have HR3 := Lib.hid hrow3; have H3 := Lib.hid (row_ktG (Ts := [5, 99, 62, 32, 57]) HROW2.out hg3 (by decide) _ _ _ _ (alloc_obj H7.out _) (by decide)); have d3 := heap_cell H3.out 6; have f3 := heap_free H3.out 6; simp [pathCells] at d3)
        have ktG := row_ktG (Ts := [5, 99, 62, 32, 57]) HROW2.out HG3.out (by decide)
        have kA : Kt [5, 99, 62, 32, 57] U1 _ := Kt.kp KA.out
        have kp3 := row_kpG (hJU.kp.trans KA.out) HROW2.out HG3.out (Nat.le_refl _)
        generalize hsv : Value.slice A3' ((stepsOf pre).length + 1) C3' = sv
        have kS : Kt [5, 99, 62, 57, 54] U3 (U3.setCell ⟨w3.heap.size + 1, 6, none⟩ sv) :=
          Kt.one ((Kp.refl [w3.heap.size + 1] U3).setCell _ _ (by simp)) H3.out (by decide)
        have kp4 := kp3.setCell ⟨w3.heap.size + 1, 6, none⟩ sv (.inr (by simp only; omega))
        have hz3 := HG3.out.size
        simp only [World.size_alloc] at hz3
        have no : ∀ {kk : Nat} {o : Obj}, (∀ cs t f, o ≠ .cells cs t f) → U1.heap[kk]? = some o → (U3.setCell ⟨w3.heap.size + 1, 6, none⟩ sv).heap[kk]? = some o := fun {kk o} hne h => by
          have h1 := alloc_obj h (.cells #[.slice Ax x.1.length Cx, .slice A (pairs x.2).length C] 54)
          have h2 : U3.heap[kk]? = some o := (HG3.out.block kk (Array.getElem?_eq_some_iff.1 h1).1 (fun e => by
            obtain ⟨_, cs, hc⟩ := row_block HROW2.out e.symm
            rw [hc] at h1; injection h1 with h1; exact hne _ _ _ h1.symm)).trans h1
          exact set_obj h2 _ _ _ (by rintro rfl; rw [H7.out] at h; injection h with h; exact hne _ _ _ h.symm)
        have hl4 := no (by simp) hkk
        have hD4 := no (by simp) hJU.hD
        have ktO : Kt [5] U1 (U3.setCell ⟨w3.heap.size + 1, 6, none⟩ sv) := ((kA.sub (by decide)).trans (ktG.sub (by decide))).trans (kS.sub (by decide))
        have ktL : Kt builtT (U3.setCell ⟨w3.heap.size + 1, 6, none⟩ sv) ((U3.setCell ⟨w3.heap.size + 1, 6, none⟩ sv).putObj (w6.heap.size + 1) (.loop rec)) := Kt.loop hl4 _
        have hlo : ∀ {kk : Nat}, kk ≠ w6.heap.size + 1 → ((U3.setCell ⟨w3.heap.size + 1, 6, none⟩ sv).putObj (w6.heap.size + 1) (.loop rec)).heap[kk]? = (U3.setCell ⟨w3.heap.size + 1, 6, none⟩ sv).heap[kk]? := fun h => World.putObj_heap_other h
        refine ⟨hl4, ⟨kp4.putObj _ _ (.inr (by omega)), ?_, ?_, (hJU.o0.kt ktO (by decide)).kt ktL (by decide), (hJU.o1.kt ktO (by decide)).kt ktL (by decide), (hJU.o2.kt ktO (by decide)).kt ktL (by decide), (hJU.o3.kt ktO (by decide)).kt ktL (by decide), (hJU.o4.kt ktO (by decide)).kt ktL (by decide), World.putObj_heap_same (Array.getElem?_eq_some_iff.1 hl4).1, ?_⟩, ?_, ?_⟩
        · exact (hlo (by omega)).trans (set_obj (ktG _ _ _ _ (alloc_obj hJU.h2 _) (by decide)) _ _ _ (by omega))
        · have kF : Kt [5, 57] U1 ((U3.setCell ⟨w3.heap.size + 1, 6, none⟩ sv).putObj (w6.heap.size + 1) (.loop rec)) := (((kA.sub (by decide)).trans (ktG.sub (by decide))).trans (kS.sub (by decide))).trans (Kt.loop hl4 _)
          have hR5 := row_kt (row_kt HR3.out kS (by decide)) ktL (by decide)
          have hST := StepsO.add (y := (x.1, pairs x.2)) (A := A3') (C := C3') HALL.out (OX.out.kt ktU (by decide)) (HSE.out.mono (by omega)) kF (by decide) (by decide) hR5
          have h4 := heap_set H3.out 6 sv
          rw [stepsOf_snoc]
          refine ⟨A3', C3', (hlo (by omega)).trans (h4.trans ?_), hST⟩
          rw [← hsv, List.length_append]
          rfl
        · exact put_obj hD4 _ _ (by omega)
        · exact ktU.trans ((((kA.sub (by decide)).trans (ktG.sub (by decide))).trans (kS.sub (by decide))).trans (Kt.loop hl4 _))
        · omega
    · exact fun pre W W' ys e hj hrd k => hj.step k hrd hqw
    · exact alloc_obj (alloc_obj hb6 _) _
    · exact hq6.kp (((Kp.refl [] w6).alloc _).alloc _)
    · simp [laidW]; omega
    · exact G0 _
    · rintro e W2 ⟨hv, hj⟩
      exact ⟨hv, hj.hl, _, hj⟩
  · rintro _ U0 X hlU ⟨rec, hj0⟩
    have hj := hj0.kt (Kt.loop hj0.hl (.loop X)) (hj0.kp.putObj _ _ (.inr (by omega))) (World.putObj_heap_same (Array.getElem?_eq_some_iff.1 hj0.hl).1) (put_obj hj0.hD _ _ (by omega))
    clear hj0 hlU
    generalize U0.putObj (w6.heap.size + 1) (.loop X) = U at *
    obtain ⟨A, C, h7, hst⟩ := hj.h7
    have hPO : PathO w.heap.size U (.agg (pathCells A0 A1 A2 A3 A4 A C0 C1 C2 C3 C4 C L (stepsOf (pairs vb)).length)) L (stepsOf (pairs vb)) := ⟨A0, A1, A2, A3, A4, A, C0, C1, C2, C3, C4, C, rfl, hj.o0, hj.o1, hj.o2, hj.o3, hj.o4, hst⟩
    have HPO := Lib.hid hPO
    have hP := putPath_any hPO.read
    have HJ := Lib.hid hj
    have H7 := Lib.hid h7
    have H2 := Lib.hid hj.h2
    have hbU := hb.kp hj.kp
    have hzU := hj.kp.size
    clear h7 hst hPO hj
    unfold PutPathPost at hP
    have s0 := heap_cell H7.out 0
    have s1 := heap_cell H7.out 1
    have s2 := heap_cell H7.out 2
    have s3 := heap_cell H7.out 3
    have s4 := heap_cell H7.out 4
    have s5 := heap_cell H7.out 5
    have s6 := heap_cell H7.out 6
    simp [pathCells] at s0 s1 s2 s3 s4 s5 s6
    unfold pathCells at hP
    by_cases hrt : rightP L (stepsOf (pairs vb)) = true
    · simp only [if_pos hrt] at hP
      gi_wp2_with fail
      refine ⟨trivial, rfl, (callsIn_wide.2 hP).mono ?_⟩
      rintro en U2 ⟨Ap, Cp, rfl, kP, oP⟩
      have hEq := equal_any oP.bs (hbU.kp kP)
      have HZ2 := Lib.hid (kP.obj H2.out (by simp))
      unfold pathZ at HZ2
      have g0 := heap_free HZ2.out 0
      have g1 := heap_free HZ2.out 1
      have g2 := heap_free HZ2.out 2
      have g3 := heap_free HZ2.out 3
      have g4 := heap_free HZ2.out 4
      have g5 := heap_free HZ2.out 5
      have g6 := heap_free HZ2.out 6
      have t0 := heap_cell HZ2.out 0
      have t1 := heap_cell HZ2.out 1
      have t2 := heap_cell HZ2.out 2
      have t3 := heap_cell HZ2.out 3
      have t4 := heap_cell HZ2.out 4
      have t5 := heap_cell HZ2.out 5
      have t6 := heap_cell HZ2.out 6
      simp at t0 t1 t2 t3 t4 t5 t6
      by_cases heq : pathB L (stepsOf (pairs vb)) = bs
      · rw [decide_eq_true heq] at hEq
        have HEQ := Lib.hid heq
        clear heq
        have HZ7 := Lib.hid (kP.obj H7.out (by simp))
        have m0 := heap_cell HZ7.out 0
        have m1 := heap_cell HZ7.out 1
        have m2 := heap_cell HZ7.out 2
        have m3 := heap_cell HZ7.out 3
        have m4 := heap_cell HZ7.out 4
        have m5 := heap_cell HZ7.out 5
        have m6 := heap_cell HZ7.out 6
        simp [pathCells] at m0 m1 m2 m3 m4 m5 m6
        gi_wp2_with fail
        refine ⟨trivial, rfl, (callsIn_wide.2 hEq).mono ?_⟩
        rintro en U2' ⟨rfl, rfl⟩
        gi_wp2
        have K7 := set7_kp U2 w.heap.size (.slice A0 L.enc.length C0) (.slice A1 L.sig.length C1) (.slice A2 L.name.length C2) (.int .i64 L.src) (.slice A3 L.hash.length C3) (.slice A4 L.sgn.length C4) (.slice A (stepsOf (pairs vb)).length C)
        have H7' := set7_heap HZ2.out (.slice A0 L.enc.length C0) (.slice A1 L.sig.length C1) (.slice A2 L.name.length C2) (.int .i64 L.src) (.slice A3 L.hash.length C3) (.slice A4 L.sgn.length C4) (.slice A (stepsOf (pairs vb)).length C)
        have hD2 := kP.obj HJ.out.hD (by simp)
        have hnD : w.heap.size ≠ w6.heap.size := by omega
        have hDF := K7.obj hD2 (by simpa using hnD.symm)
        unfold set7 at K7 H7' hDF
        have HF := put_obj H7' w6.heap.size (.deferred none) hnD
        have q0 := heap_cell HF 0
        have q1 := heap_cell HF 1
        have q2 := heap_cell HF 2
        have q3 := heap_cell HF 3
        have q4 := heap_cell HF 4
        have q5 := heap_cell HF 5
        have q6 := heap_cell HF 6
        simp at q0 q1 q2 q3 q4 q5 q6
        refine marks_ret (v := .tuple #[.agg #[.slice A0 L.enc.length C0, .slice A1 L.sig.length C1, .slice A2 L.name.length C2, .int .i64 L.src, .slice A3 L.hash.length C3, .slice A4 L.sgn.length C4, .slice A (stepsOf (pairs vb)).length C], .int .i64 0]) hDF (by simp [results, Tryd.results8, go_sem, q0, q1, q2, q3, q4, q5, q6]) ?_
        have hyes : okPath bs := by
          unfold okPath
          rw [hE.out, hS.out]
          exact ⟨hrt, HEQ.out⟩
        refine ⟨.agg (pathCells A0 A1 A2 A3 A4 A C0 C1 C2 C3 C4 C L (stepsOf (pairs vb)).length), ?_, ?_, (((HJ.out.kp.trans kP).old K7 (by intro x hx; simp at hx; omega))).putObj _ _ (.inr (by omega))⟩
        · rw [getPathE, if_pos hyes]; rfl
        · rw [getPathL, getPathS, if_pos hyes, if_pos hyes, hE.out, hS.out]
          obtain ⟨D0, D1, D2, D3, D4, D5, E0, E1, E2, E3, E4, E5, hv, p0, p1, p2, p3, p4, p5⟩ := HPO.out
          have ktF : Kt [5, 57, 54] U _ := ((Kt.kp kP).trans (Kt.one K7 HZ2.out (by decide))).trans (Kt.deferred hDF (.deferred none))
          exact ⟨D0, D1, D2, D3, D4, D5, E0, E1, E2, E3, E4, E5, hv, p0.kt ktF (by decide), p1.kt ktF (by decide), p2.kt ktF (by decide), p3.kt ktF (by decide), p4.kt ktF (by decide), p5.kt ktF (by decide) (by decide) (by decide)⟩
      · rw [decide_eq_false heq] at hEq
        gi_wp2_with fail
        refine ⟨trivial, rfl, (callsIn_wide.2 hEq).mono ?_⟩
        rintro en U2' ⟨rfl, rfl⟩
        gi_wp2
        have K7 := set7_kp U2 w.heap.size (.slice none 0 0) (.slice none 0 0) (.slice none 0 0) (.int .i64 0) (.slice none 0 0) (.slice none 0 0) (.slice none 0 0)
        have H7' := set7_heap HZ2.out (.slice none 0 0) (.slice none 0 0) (.slice none 0 0) (.int .i64 0) (.slice none 0 0) (.slice none 0 0) (.slice none 0 0)
        have hD2 := kP.obj HJ.out.hD (by simp)
        have hnD : w.heap.size ≠ w6.heap.size := by omega
        have hDF := K7.obj hD2 (by simpa using hnD.symm)
        unfold set7 at K7 H7' hDF
        have HF := put_obj H7' w6.heap.size (.deferred none) hnD
        have q0 := heap_cell HF 0
        have q1 := heap_cell HF 1
        have q2 := heap_cell HF 2
        have q3 := heap_cell HF 3
        have q4 := heap_cell HF 4
        have q5 := heap_cell HF 5
        have q6 := heap_cell HF 6
        simp at q0 q1 q2 q3 q4 q5 q6
        refine marks_ret (v := .tuple #[.agg #[.slice none 0 0, .slice none 0 0, .slice none 0 0, .int .i64 0, .slice none 0 0, .slice none 0 0, .slice none 0 0], .int .i64 21]) hDF (by simp [results, Tryd.results8, go_sem, q0, q1, q2, q3, q4, q5, q6]) ?_
        have hno : ¬ okPath bs := fun h => heq (by have := h.2; rwa [hE.out, hS.out] at this)
        refine ⟨.agg #[.slice none 0 0, .slice none 0 0, .slice none 0 0, .int .i64 0, .slice none 0 0, .slice none 0 0, .slice none 0 0], ?_, ?_, (((HJ.out.kp.trans kP).old K7 (by intro x hx; simp at hx; omega))).putObj _ _ (.inr (by omega))⟩
        · rw [getPathE, if_neg hno]
        · rw [getPathL, getPathS, if_neg hno, if_neg hno]; exact PathO.nil _ _
    · simp only [if_neg hrt] at hP
      gi_wp2_with fail
      refine ⟨trivial, rfl, (callsIn_wide.2 hP).mono ?_⟩
      rintro en U2 ⟨rfl, kP⟩
      have HZ2 := Lib.hid (kP.obj H2.out (by simp))
      unfold pathZ at HZ2
      have g0 := heap_free HZ2.out 0
      have g1 := heap_free HZ2.out 1
      have g2 := heap_free HZ2.out 2
      have g3 := heap_free HZ2.out 3
      have g4 := heap_free HZ2.out 4
      have g5 := heap_free HZ2.out 5
      have g6 := heap_free HZ2.out 6
      have t0 := heap_cell HZ2.out 0
      have t1 := heap_cell HZ2.out 1
      have t2 := heap_cell HZ2.out 2
      have t3 := heap_cell HZ2.out 3
      have t4 := heap_cell HZ2.out 4
      have t5 := heap_cell HZ2.out 5
      have t6 := heap_cell HZ2.out 6
      simp at t0 t1 t2 t3 t4 t5 t6
      gi_wp2_with fail
      refine ⟨trivial, ?_⟩
      gi_wp2
      have K7 := set7_kp U2 w.heap.size (.slice none 0 0) (.slice none 0 0) (.slice none 0 0) (.int .i64 0) (.slice none 0 0) (.slice none 0 0) (.slice none 0 0)
      have H7' := set7_heap HZ2.out (.slice none 0 0) (.slice none 0 0) (.slice none 0 0) (.int .i64 0) (.slice none 0 0) (.slice none 0 0) (.slice none 0 0)
      have hD2 := kP.obj HJ.out.hD (by simp)
      have hnD : w.heap.size ≠ w6.heap.size := by omega
      have hDF := K7.obj hD2 (by simpa using hnD.symm)
      unfold set7 at K7 H7' hDF
      have HF := put_obj H7' w6.heap.size (.deferred none) hnD
      have q0 := heap_cell HF 0
      have q1 := heap_cell HF 1
      have q2 := heap_cell HF 2
      have q3 := heap_cell HF 3
      have q4 := heap_cell HF 4
      have q5 := heap_cell HF 5
      have q6 := heap_cell HF 6
      simp at q0 q1 q2 q3 q4 q5 q6
      refine marks_ret (v := .tuple #[.agg #[.slice none 0 0, .slice none 0 0, .slice none 0 0, .int .i64 0, .slice none 0 0, .slice none 0 0, .slice none 0 0], .int .i64 21]) hDF (by simp [results, Tryd.results8, go_sem, q0, q1, q2, q3, q4, q5, q6]) ?_
      have hno : ¬ okPath bs := fun h => hrt (by have := h.1; rwa [hE.out, hS.out] at this)
      refine ⟨.agg #[.slice none 0 0, .slice none 0 0, .slice none 0 0, .int .i64 0, .slice none 0 0, .slice none 0 0, .slice none 0 0], ?_, ?_, (((HJ.out.kp.trans kP).old K7 (by intro x hx; simp at hx; omega))).putObj _ _ (.inr (by omega))⟩
      · rw [getPathE, if_neg hno]
      · rw [getPathL, getPathS, if_neg hno, if_neg hno]; exact PathO.nil _ _
end Go.Proofs.YtgmdcmkokdbeoaaDoor
