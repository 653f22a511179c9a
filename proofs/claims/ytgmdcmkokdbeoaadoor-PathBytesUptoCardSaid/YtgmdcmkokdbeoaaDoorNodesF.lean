/- The walks of package nodes: GetLeaf. -/
import Derived.Test.YtgmdcmkokdbeoaaDoorNodesE
set_option linter.unusedVariables false
namespace Go.Proofs.YtgmdcmkokdbeoaaDoor
open Go.RowKit

def zeroLeafV : Value := .agg #[.slice none 0 0, .slice none 0 0, .slice none 0 0, .int .i64 0, .slice none 0 0, .slice none 0 0]
/-- Is what was read written so? -/
def gotOk (l : LeafD) (xs : List UInt8) (e : Int) (bs : List UInt8) : Prop := endOf xs e = 0 ∧ rightL l ∧ putLeafB l = bs
instance (l : LeafD) (xs : List UInt8) (e : Int) (bs : List UInt8) : Decidable (gotOk l xs e bs) := by unfold gotOk; infer_instance

def GotPost (w : World) (v : Value) (k : Int) (e : Ending) (w' : World) : Prop := e = .returned (.tuple #[v, .int .i64 k]) ∧ Kp [] w w'

theorem alloc3 (w : World) (o1 o2 o3 : Obj) : (((w.alloc o1).alloc o2).alloc o3).heap[w.heap.size]? = some o1 ∧ (((w.alloc o1).alloc o2).alloc o3).heap[w.heap.size + 1]? = some o2 ∧ (((w.alloc o1).alloc o2).alloc o3).heap[w.heap.size + 2]? = some o3 := by
  refine ⟨alloc_obj (alloc2_get w o1 o2) _, alloc_obj (alloc2_last w o1 o2) _, ?_⟩
  have := heap_alloc_new ((w.alloc o1).alloc o2) o3
  simpa using this
theorem agg_store {w : World} {b : Nat} (v0 v1 v2 v3 v4 v5 : Value) : Kp [b] w ((((((w.setCell ⟨b, 0, none⟩ v0).setCell ⟨b, 1, none⟩ v1).setCell ⟨b, 2, none⟩ v2).setCell ⟨b, 3, none⟩ v3).setCell ⟨b, 4, none⟩ v4).setCell ⟨b, 5, none⟩ v5) :=
  ((((((Kp.refl [b] w).setCell _ _ (by simp)).setCell _ _ (by simp)).setCell _ _ (by simp)).setCell _ _ (by simp)).setCell _ _ (by simp)).setCell _ _ (by simp)

set_option maxRecDepth 100000 in
set_option maxHeartbeats 2000000 in
theorem got_ok {w : World} {r : Nat} {xs : List UInt8} {e : Int} (h : Rd w r xs e) (l : LeafD) {A0 A1 A2 A3 A4 : Option Addr} {C0 C1 C2 C3 C4 : Nat}
    (b0 : Bs w (.slice A0 l.enc.length C0) l.enc) (b1 : Bs w (.slice A1 l.sig.length C1) l.sig) (b2 : Bs w (.slice A2 l.name.length C2) l.name) (b3 : Bs w (.slice A3 l.hash.length C3) l.hash) (b4 : Bs w (.slice A4 l.sgn.length C4) l.sgn)
    {bv : Value} {bs : List UInt8} (hb : Bs w bv bs) (hl : rightL l) (he : endOf xs e = 0) (hq : putLeafB l = bs) :
    Calls Tryd.prog 46 #[.agg #[.slice A0 l.enc.length C0, .slice A1 l.sig.length C1, .slice A2 l.name.length C2, .int .i64 l.src, .slice A3 l.hash.length C3, .slice A4 l.sgn.length C4], .pointer (some ⟨r, 0, none⟩), .func (.func 17) #[] #[], bv] w
      (GotPost w (.agg #[.slice A0 l.enc.length C0, .slice A1 l.sig.length C1, .slice A2 l.name.length C2, .int .i64 l.src, .slice A3 l.hash.length C3, .slice A4 l.sgn.length C4]) 0) := by
  have hA := alloc3 w (.cells #[.slice A0 l.enc.length C0, .slice A1 l.sig.length C1, .slice A2 l.name.length C2, .int .i64 l.src, .slice A3 l.hash.length C3, .slice A4 l.sgn.length C4] 29) (.cells #[.slice none 0 0, .slice none 0 0, .slice none 0 0, .int .i64 0, .slice none 0 0, .slice none 0 0] 29) (.cells #[.slice none 0 0, .slice none 0 0, .slice none 0 0, .int .i64 0, .slice none 0 0, .slice none 0 0] 29)
  have HA0 := Lib.hid hA.1
  have HA1 := Lib.hid hA.2.1
  have HA2 := Lib.hid hA.2.2
  have K0 := Lib.hid ((((Kp.refl [] w).alloc (.cells #[.slice A0 l.enc.length C0, .slice A1 l.sig.length C1, .slice A2 l.name.length C2, .int .i64 l.src, .slice A3 l.hash.length C3, .slice A4 l.sgn.length C4] 29)).alloc (.cells #[.slice none 0 0, .slice none 0 0, .slice none 0 0, .int .i64 0, .slice none 0 0, .slice none 0 0] 29)).alloc (.cells #[.slice none 0 0, .slice none 0 0, .slice none 0 0, .int .i64 0, .slice none 0 0, .slice none 0 0] 29))
  have HE := Lib.hid he
  have HQ := Lib.hid hq
  have HL := Lib.hid hl
  clear he hq hl
  clear hA
  go_enter Tryd.func46, Tryd.ntmps46
  go_wp2_with fail
  refine (putLeaf_ok l HL.out (b0.kp K0.out) (b1.kp K0.out) (b2.kp K0.out) (b3.kp K0.out) (b4.kp K0.out)).mono ?_
  rintro en w1 ⟨A, C, rfl, k1, o1⟩
  have H0 := Lib.hid (k1.obj HA0.out (by simp))
  have H1 := Lib.hid (k1.obj HA1.out (by simp))
  have H2 := Lib.hid (k1.obj HA2.out (by simp))
  have KW := Lib.hid (K0.out.trans k1)
  have hrd := h.kp KW.out
  have s0 := heap_cell H0.out 0
  have s1 := heap_cell H0.out 1
  have s2 := heap_cell H0.out 2
  have s3 := heap_cell H0.out 3
  have s4 := heap_cell H0.out 4
  have s5 := heap_cell H0.out 5
  have t0 := heap_cell H1.out 0
  have g0 := heap_free H1.out 0
  have t1 := heap_cell H1.out 1
  have g1 := heap_free H1.out 1
  have t2 := heap_cell H1.out 2
  have g2 := heap_free H1.out 2
  have t3 := heap_cell H1.out 3
  have g3 := heap_free H1.out 3
  have t4 := heap_cell H1.out 4
  have g4 := heap_free H1.out 4
  have t5 := heap_cell H1.out 5
  have g5 := heap_free H1.out 5
  simp at s0 s1 s2 s3 s4 s5 t0 t1 t2 t3 t4 t5
  have hE := end_any hrd
  rw [HE.out] at hE
  have hEq := equal_any o1.bs (hb.kp KW.out)
  rw [decide_eq_true HQ.out] at hEq
  go_wp2_with (first | (go_at_call 67; refine hE.mono ?_; rintro en w' ⟨rfl, rfl⟩) | (go_at_call 24; refine hEq.mono ?_; rintro en w' ⟨rfl, rfl⟩))
  exact bodyPost_ret (v := .tuple #[.agg #[.slice A0 l.enc.length C0, .slice A1 l.sig.length C1, .slice A2 l.name.length C2, .int .i64 l.src, .slice A3 l.hash.length C3, .slice A4 l.sgn.length C4], .int .i64 0]) (by simp [results, Tryd.results46, go_sem, t0, t1, t2, t3, t4, t5]) rfl ⟨rfl, KW.out.old (agg_store (b := w.heap.size + 1) (.slice A0 l.enc.length C0) (.slice A1 l.sig.length C1) (.slice A2 l.name.length C2) (.int .i64 l.src) (.slice A3 l.hash.length C3) (.slice A4 l.sgn.length C4)) (by intro x hx; simp at hx; omega)⟩

set_option maxRecDepth 100000 in
set_option maxHeartbeats 2000000 in
theorem got_ne {w : World} {r : Nat} {xs : List UInt8} {e : Int} (h : Rd w r xs e) (l : LeafD) {A0 A1 A2 A3 A4 : Option Addr} {C0 C1 C2 C3 C4 : Nat}
    (b0 : Bs w (.slice A0 l.enc.length C0) l.enc) (b1 : Bs w (.slice A1 l.sig.length C1) l.sig) (b2 : Bs w (.slice A2 l.name.length C2) l.name) (b3 : Bs w (.slice A3 l.hash.length C3) l.hash) (b4 : Bs w (.slice A4 l.sgn.length C4) l.sgn)
    {bv : Value} {bs : List UInt8} (hb : Bs w bv bs) (hl : rightL l) (he : endOf xs e = 0) (hq : ¬ putLeafB l = bs) :
    Calls Tryd.prog 46 #[.agg #[.slice A0 l.enc.length C0, .slice A1 l.sig.length C1, .slice A2 l.name.length C2, .int .i64 l.src, .slice A3 l.hash.length C3, .slice A4 l.sgn.length C4], .pointer (some ⟨r, 0, none⟩), .func (.func 17) #[] #[], bv] w
      (GotPost w (.agg #[.slice none 0 0, .slice none 0 0, .slice none 0 0, .int .i64 0, .slice none 0 0, .slice none 0 0]) 21) := by
  have hA := alloc3 w (.cells #[.slice A0 l.enc.length C0, .slice A1 l.sig.length C1, .slice A2 l.name.length C2, .int .i64 l.src, .slice A3 l.hash.length C3, .slice A4 l.sgn.length C4] 29) (.cells #[.slice none 0 0, .slice none 0 0, .slice none 0 0, .int .i64 0, .slice none 0 0, .slice none 0 0] 29) (.cells #[.slice none 0 0, .slice none 0 0, .slice none 0 0, .int .i64 0, .slice none 0 0, .slice none 0 0] 29)
  have HA0 := Lib.hid hA.1
  have HA1 := Lib.hid hA.2.1
  have HA2 := Lib.hid hA.2.2
  have K0 := Lib.hid ((((Kp.refl [] w).alloc (.cells #[.slice A0 l.enc.length C0, .slice A1 l.sig.length C1, .slice A2 l.name.length C2, .int .i64 l.src, .slice A3 l.hash.length C3, .slice A4 l.sgn.length C4] 29)).alloc (.cells #[.slice none 0 0, .slice none 0 0, .slice none 0 0, .int .i64 0, .slice none 0 0, .slice none 0 0] 29)).alloc (.cells #[.slice none 0 0, .slice none 0 0, .slice none 0 0, .int .i64 0, .slice none 0 0, .slice none 0 0] 29))
  have HE := Lib.hid he
  have HQ := Lib.hid hq
  have HL := Lib.hid hl
  clear he hq hl
  clear hA
  go_enter Tryd.func46, Tryd.ntmps46
  go_wp2_with fail
  refine (putLeaf_ok l HL.out (b0.kp K0.out) (b1.kp K0.out) (b2.kp K0.out) (b3.kp K0.out) (b4.kp K0.out)).mono ?_
  rintro en w1 ⟨A, C, rfl, k1, o1⟩
  have H0 := Lib.hid (k1.obj HA0.out (by simp))
  have H1 := Lib.hid (k1.obj HA1.out (by simp))
  have H2 := Lib.hid (k1.obj HA2.out (by simp))
  have KW := Lib.hid (K0.out.trans k1)
  have hrd := h.kp KW.out
  have s0 := heap_cell H2.out 0
  have s1 := heap_cell H2.out 1
  have s2 := heap_cell H2.out 2
  have s3 := heap_cell H2.out 3
  have s4 := heap_cell H2.out 4
  have s5 := heap_cell H2.out 5
  have t0 := heap_cell H1.out 0
  have g0 := heap_free H1.out 0
  have t1 := heap_cell H1.out 1
  have g1 := heap_free H1.out 1
  have t2 := heap_cell H1.out 2
  have g2 := heap_free H1.out 2
  have t3 := heap_cell H1.out 3
  have g3 := heap_free H1.out 3
  have t4 := heap_cell H1.out 4
  have g4 := heap_free H1.out 4
  have t5 := heap_cell H1.out 5
  have g5 := heap_free H1.out 5
  simp at s0 s1 s2 s3 s4 s5 t0 t1 t2 t3 t4 t5
  have hE := end_any hrd
  rw [HE.out] at hE
  have hEq := equal_any o1.bs (hb.kp KW.out)
  rw [decide_eq_false HQ.out] at hEq
  go_wp2_with (first | (go_at_call 67; refine hE.mono ?_; rintro en w' ⟨rfl, rfl⟩) | (go_at_call 24; refine hEq.mono ?_; rintro en w' ⟨rfl, rfl⟩))
  exact bodyPost_ret (v := .tuple #[.agg #[.slice none 0 0, .slice none 0 0, .slice none 0 0, .int .i64 0, .slice none 0 0, .slice none 0 0], .int .i64 21]) (by simp [results, Tryd.results46, go_sem, t0, t1, t2, t3, t4, t5]) rfl ⟨rfl, KW.out.old (agg_store (b := w.heap.size + 1) (.slice none 0 0) (.slice none 0 0) (.slice none 0 0) (.int .i64 0) (.slice none 0 0) (.slice none 0 0)) (by intro x hx; simp at hx; omega)⟩

set_option maxRecDepth 100000 in
set_option maxHeartbeats 2000000 in
theorem got_end {w : World} {r : Nat} {xs : List UInt8} {e : Int} (h : Rd w r xs e) (l : LeafD) {A0 A1 A2 A3 A4 : Option Addr} {C0 C1 C2 C3 C4 : Nat}
    (b0 : Bs w (.slice A0 l.enc.length C0) l.enc) (b1 : Bs w (.slice A1 l.sig.length C1) l.sig) (b2 : Bs w (.slice A2 l.name.length C2) l.name) (b3 : Bs w (.slice A3 l.hash.length C3) l.hash) (b4 : Bs w (.slice A4 l.sgn.length C4) l.sgn)
    {bv : Value} {bs : List UInt8} (hb : Bs w bv bs) (hl : rightL l) (he : ¬ endOf xs e = 0) :
    Calls Tryd.prog 46 #[.agg #[.slice A0 l.enc.length C0, .slice A1 l.sig.length C1, .slice A2 l.name.length C2, .int .i64 l.src, .slice A3 l.hash.length C3, .slice A4 l.sgn.length C4], .pointer (some ⟨r, 0, none⟩), .func (.func 17) #[] #[], bv] w
      (GotPost w (.agg #[.slice none 0 0, .slice none 0 0, .slice none 0 0, .int .i64 0, .slice none 0 0, .slice none 0 0]) 21) := by
  have hA := alloc3 w (.cells #[.slice A0 l.enc.length C0, .slice A1 l.sig.length C1, .slice A2 l.name.length C2, .int .i64 l.src, .slice A3 l.hash.length C3, .slice A4 l.sgn.length C4] 29) (.cells #[.slice none 0 0, .slice none 0 0, .slice none 0 0, .int .i64 0, .slice none 0 0, .slice none 0 0] 29) (.cells #[.slice none 0 0, .slice none 0 0, .slice none 0 0, .int .i64 0, .slice none 0 0, .slice none 0 0] 29)
  have HA0 := Lib.hid hA.1
  have HA1 := Lib.hid hA.2.1
  have HA2 := Lib.hid hA.2.2
  have K0 := Lib.hid ((((Kp.refl [] w).alloc (.cells #[.slice A0 l.enc.length C0, .slice A1 l.sig.length C1, .slice A2 l.name.length C2, .int .i64 l.src, .slice A3 l.hash.length C3, .slice A4 l.sgn.length C4] 29)).alloc (.cells #[.slice none 0 0, .slice none 0 0, .slice none 0 0, .int .i64 0, .slice none 0 0, .slice none 0 0] 29)).alloc (.cells #[.slice none 0 0, .slice none 0 0, .slice none 0 0, .int .i64 0, .slice none 0 0, .slice none 0 0] 29))
  have he1 : (endOf xs e != 0) = true := by simpa using he
  have HL := Lib.hid hl
  clear he hl
  clear hA
  go_enter Tryd.func46, Tryd.ntmps46
  go_wp2_with fail
  refine (putLeaf_ok l HL.out (b0.kp K0.out) (b1.kp K0.out) (b2.kp K0.out) (b3.kp K0.out) (b4.kp K0.out)).mono ?_
  rintro en w1 ⟨A, C, rfl, k1, o1⟩
  have H0 := Lib.hid (k1.obj HA0.out (by simp))
  have H1 := Lib.hid (k1.obj HA1.out (by simp))
  have H2 := Lib.hid (k1.obj HA2.out (by simp))
  have KW := Lib.hid (K0.out.trans k1)
  have hrd := h.kp KW.out
  have s0 := heap_cell H2.out 0
  have s1 := heap_cell H2.out 1
  have s2 := heap_cell H2.out 2
  have s3 := heap_cell H2.out 3
  have s4 := heap_cell H2.out 4
  have s5 := heap_cell H2.out 5
  have t0 := heap_cell H1.out 0
  have g0 := heap_free H1.out 0
  have t1 := heap_cell H1.out 1
  have g1 := heap_free H1.out 1
  have t2 := heap_cell H1.out 2
  have g2 := heap_free H1.out 2
  have t3 := heap_cell H1.out 3
  have g3 := heap_free H1.out 3
  have t4 := heap_cell H1.out 4
  have g4 := heap_free H1.out 4
  have t5 := heap_cell H1.out 5
  have g5 := heap_free H1.out 5
  simp at s0 s1 s2 s3 s4 s5 t0 t1 t2 t3 t4 t5
  have hE := end_any hrd
  go_wp2_with (first | (go_at_call 67; refine hE.mono ?_; rintro en w' ⟨rfl, rfl⟩))
  exact bodyPost_ret (v := .tuple #[.agg #[.slice none 0 0, .slice none 0 0, .slice none 0 0, .int .i64 0, .slice none 0 0, .slice none 0 0], .int .i64 21]) (by simp [results, Tryd.results46, go_sem, t0, t1, t2, t3, t4, t5]) rfl ⟨rfl, KW.out.old (agg_store (b := w.heap.size + 1) (.slice none 0 0) (.slice none 0 0) (.slice none 0 0) (.int .i64 0) (.slice none 0 0) (.slice none 0 0)) (by intro x hx; simp at hx; omega)⟩

set_option maxRecDepth 100000 in
set_option maxHeartbeats 2000000 in
theorem got_end2 {w : World} {r : Nat} {xs : List UInt8} {e : Int} (h : Rd w r xs e) (l : LeafD) {A0 A1 A2 A3 A4 : Option Addr} {C0 C1 C2 C3 C4 : Nat}
    (b0 : Bs w (.slice A0 l.enc.length C0) l.enc) (b1 : Bs w (.slice A1 l.sig.length C1) l.sig) (b2 : Bs w (.slice A2 l.name.length C2) l.name) (b3 : Bs w (.slice A3 l.hash.length C3) l.hash) (b4 : Bs w (.slice A4 l.sgn.length C4) l.sgn)
    {bv : Value} {bs : List UInt8} (hb : Bs w bv bs) (hl : ¬ rightL l) (he : ¬ endOf xs e = 0) :
    Calls Tryd.prog 46 #[.agg #[.slice A0 l.enc.length C0, .slice A1 l.sig.length C1, .slice A2 l.name.length C2, .int .i64 l.src, .slice A3 l.hash.length C3, .slice A4 l.sgn.length C4], .pointer (some ⟨r, 0, none⟩), .func (.func 17) #[] #[], bv] w
      (GotPost w (.agg #[.slice none 0 0, .slice none 0 0, .slice none 0 0, .int .i64 0, .slice none 0 0, .slice none 0 0]) 21) := by
  have hA := alloc3 w (.cells #[.slice A0 l.enc.length C0, .slice A1 l.sig.length C1, .slice A2 l.name.length C2, .int .i64 l.src, .slice A3 l.hash.length C3, .slice A4 l.sgn.length C4] 29) (.cells #[.slice none 0 0, .slice none 0 0, .slice none 0 0, .int .i64 0, .slice none 0 0, .slice none 0 0] 29) (.cells #[.slice none 0 0, .slice none 0 0, .slice none 0 0, .int .i64 0, .slice none 0 0, .slice none 0 0] 29)
  have HA0 := Lib.hid hA.1
  have HA1 := Lib.hid hA.2.1
  have HA2 := Lib.hid hA.2.2
  have K0 := Lib.hid ((((Kp.refl [] w).alloc (.cells #[.slice A0 l.enc.length C0, .slice A1 l.sig.length C1, .slice A2 l.name.length C2, .int .i64 l.src, .slice A3 l.hash.length C3, .slice A4 l.sgn.length C4] 29)).alloc (.cells #[.slice none 0 0, .slice none 0 0, .slice none 0 0, .int .i64 0, .slice none 0 0, .slice none 0 0] 29)).alloc (.cells #[.slice none 0 0, .slice none 0 0, .slice none 0 0, .int .i64 0, .slice none 0 0, .slice none 0 0] 29))
  have he1 : (endOf xs e != 0) = true := by simpa using he
  have HL := Lib.hid (show ¬ (l.enc.length = 32 ∧ l.sig.length = 32 ∧ l.sgn.length = 64 ∧ (1 ≤ l.name.length ∧ l.name.length ≤ 64 ∧ 1 ≤ l.src ∧ l.src ≤ 3) ∧ (l.hash.length = 0 ∨ (l.hash.length = 32 ∧ l.src = 3))) from hl)
  clear he hl
  clear hA
  go_enter Tryd.func46, Tryd.ntmps46
  go_wp2_with fail
  refine (putLeaf_no A0 A1 A2 A3 A4 _ _ _ _ _ C0 C1 C2 C3 C4 l.src HL.out).mono ?_
  rintro en w1 ⟨rfl, k1⟩
  have H0 := Lib.hid (k1.obj HA0.out (by simp))
  have H1 := Lib.hid (k1.obj HA1.out (by simp))
  have H2 := Lib.hid (k1.obj HA2.out (by simp))
  have KW := Lib.hid (K0.out.trans k1)
  have hrd := h.kp KW.out
  have s0 := heap_cell H2.out 0
  have s1 := heap_cell H2.out 1
  have s2 := heap_cell H2.out 2
  have s3 := heap_cell H2.out 3
  have s4 := heap_cell H2.out 4
  have s5 := heap_cell H2.out 5
  have t0 := heap_cell H1.out 0
  have g0 := heap_free H1.out 0
  have t1 := heap_cell H1.out 1
  have g1 := heap_free H1.out 1
  have t2 := heap_cell H1.out 2
  have g2 := heap_free H1.out 2
  have t3 := heap_cell H1.out 3
  have g3 := heap_free H1.out 3
  have t4 := heap_cell H1.out 4
  have g4 := heap_free H1.out 4
  have t5 := heap_cell H1.out 5
  have g5 := heap_free H1.out 5
  simp at s0 s1 s2 s3 s4 s5 t0 t1 t2 t3 t4 t5
  have hE := end_any hrd
  go_wp2_with (first | (go_at_call 67; refine hE.mono ?_; rintro en w' ⟨rfl, rfl⟩))
  exact bodyPost_ret (v := .tuple #[.agg #[.slice none 0 0, .slice none 0 0, .slice none 0 0, .int .i64 0, .slice none 0 0, .slice none 0 0], .int .i64 21]) (by simp [results, Tryd.results46, go_sem, t0, t1, t2, t3, t4, t5]) rfl ⟨rfl, KW.out.old (agg_store (b := w.heap.size + 1) (.slice none 0 0) (.slice none 0 0) (.slice none 0 0) (.int .i64 0) (.slice none 0 0) (.slice none 0 0)) (by intro x hx; simp at hx; omega)⟩

set_option maxRecDepth 100000 in
set_option maxHeartbeats 2000000 in
theorem got_no {w : World} {r : Nat} {xs : List UInt8} {e : Int} (h : Rd w r xs e) (l : LeafD) {A0 A1 A2 A3 A4 : Option Addr} {C0 C1 C2 C3 C4 : Nat}
    (b0 : Bs w (.slice A0 l.enc.length C0) l.enc) (b1 : Bs w (.slice A1 l.sig.length C1) l.sig) (b2 : Bs w (.slice A2 l.name.length C2) l.name) (b3 : Bs w (.slice A3 l.hash.length C3) l.hash) (b4 : Bs w (.slice A4 l.sgn.length C4) l.sgn)
    {bv : Value} {bs : List UInt8} (hb : Bs w bv bs) (hl : ¬ rightL l) (he : endOf xs e = 0) :
    Calls Tryd.prog 46 #[.agg #[.slice A0 l.enc.length C0, .slice A1 l.sig.length C1, .slice A2 l.name.length C2, .int .i64 l.src, .slice A3 l.hash.length C3, .slice A4 l.sgn.length C4], .pointer (some ⟨r, 0, none⟩), .func (.func 17) #[] #[], bv] w
      (GotPost w (.agg #[.slice none 0 0, .slice none 0 0, .slice none 0 0, .int .i64 0, .slice none 0 0, .slice none 0 0]) 21) := by
  have hA := alloc3 w (.cells #[.slice A0 l.enc.length C0, .slice A1 l.sig.length C1, .slice A2 l.name.length C2, .int .i64 l.src, .slice A3 l.hash.length C3, .slice A4 l.sgn.length C4] 29) (.cells #[.slice none 0 0, .slice none 0 0, .slice none 0 0, .int .i64 0, .slice none 0 0, .slice none 0 0] 29) (.cells #[.slice none 0 0, .slice none 0 0, .slice none 0 0, .int .i64 0, .slice none 0 0, .slice none 0 0] 29)
  have HA0 := Lib.hid hA.1
  have HA1 := Lib.hid hA.2.1
  have HA2 := Lib.hid hA.2.2
  have K0 := Lib.hid ((((Kp.refl [] w).alloc (.cells #[.slice A0 l.enc.length C0, .slice A1 l.sig.length C1, .slice A2 l.name.length C2, .int .i64 l.src, .slice A3 l.hash.length C3, .slice A4 l.sgn.length C4] 29)).alloc (.cells #[.slice none 0 0, .slice none 0 0, .slice none 0 0, .int .i64 0, .slice none 0 0, .slice none 0 0] 29)).alloc (.cells #[.slice none 0 0, .slice none 0 0, .slice none 0 0, .int .i64 0, .slice none 0 0, .slice none 0 0] 29))
  have HE := Lib.hid he
  have HL := Lib.hid (show ¬ (l.enc.length = 32 ∧ l.sig.length = 32 ∧ l.sgn.length = 64 ∧ (1 ≤ l.name.length ∧ l.name.length ≤ 64 ∧ 1 ≤ l.src ∧ l.src ≤ 3) ∧ (l.hash.length = 0 ∨ (l.hash.length = 32 ∧ l.src = 3))) from hl)
  clear he hl
  clear hA
  go_enter Tryd.func46, Tryd.ntmps46
  go_wp2_with fail
  refine (putLeaf_no A0 A1 A2 A3 A4 _ _ _ _ _ C0 C1 C2 C3 C4 l.src HL.out).mono ?_
  rintro en w1 ⟨rfl, k1⟩
  have H0 := Lib.hid (k1.obj HA0.out (by simp))
  have H1 := Lib.hid (k1.obj HA1.out (by simp))
  have H2 := Lib.hid (k1.obj HA2.out (by simp))
  have KW := Lib.hid (K0.out.trans k1)
  have hrd := h.kp KW.out
  have s0 := heap_cell H2.out 0
  have s1 := heap_cell H2.out 1
  have s2 := heap_cell H2.out 2
  have s3 := heap_cell H2.out 3
  have s4 := heap_cell H2.out 4
  have s5 := heap_cell H2.out 5
  have t0 := heap_cell H1.out 0
  have g0 := heap_free H1.out 0
  have t1 := heap_cell H1.out 1
  have g1 := heap_free H1.out 1
  have t2 := heap_cell H1.out 2
  have g2 := heap_free H1.out 2
  have t3 := heap_cell H1.out 3
  have g3 := heap_free H1.out 3
  have t4 := heap_cell H1.out 4
  have g4 := heap_free H1.out 4
  have t5 := heap_cell H1.out 5
  have g5 := heap_free H1.out 5
  simp at s0 s1 s2 s3 s4 s5 t0 t1 t2 t3 t4 t5
  have hE := end_any hrd
  rw [HE.out] at hE
  go_wp2_with (first | (go_at_call 67; refine hE.mono ?_; rintro en w' ⟨rfl, rfl⟩))
  exact bodyPost_ret (v := .tuple #[.agg #[.slice none 0 0, .slice none 0 0, .slice none 0 0, .int .i64 0, .slice none 0 0, .slice none 0 0], .int .i64 21]) (by simp [results, Tryd.results46, go_sem, t0, t1, t2, t3, t4, t5]) rfl ⟨rfl, KW.out.old (agg_store (b := w.heap.size + 1) (.slice none 0 0) (.slice none 0 0) (.slice none 0 0) (.int .i64 0) (.slice none 0 0) (.slice none 0 0)) (by intro x hx; simp at hx; omega)⟩

end Go.Proofs.YtgmdcmkokdbeoaaDoor
