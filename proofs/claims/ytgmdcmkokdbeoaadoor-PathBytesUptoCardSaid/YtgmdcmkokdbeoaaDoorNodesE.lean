/- The walks of package nodes: a leaf is read. -/
import Derived.Test.YtgmdcmkokdbeoaaDoorNodesD
import Derived.Test.YtgmdcmkokdbeoaaDoorStr
set_option linter.unusedVariables false
namespace Go.Proofs.YtgmdcmkokdbeoaaDoor
open Go.RowKit

/-- A number of one byte. -/
def n1 (xs : List UInt8) (e : Int) : Int × List UInt8 × Int := if e ≠ 0 then (0, xs, e) else if xs.length < 1 then (0, xs, 20) else ((be (xs.take 1) : Nat), xs.drop 1, 0)
def NumPost (r : Nat) (w : World) (t : Int × List UInt8 × Int) (en : Ending) (w' : World) : Prop := en = .returned (.int .i64 t.1) ∧ Kp [r] w w' ∧ Rd w' r t.2.1 t.2.2
theorem n1_any {w : World} {r : Nat} {xs : List UInt8} {e : Int} (h : Rd w r xs e) :
    Calls Tryd.prog 68 #[.pointer (some ⟨r, 0, none⟩), .int .i64 1] w (NumPost r w (n1 xs e)) := by
  unfold n1
  by_cases he : e = 0
  · subst he
    rw [if_neg (by simp)]
    by_cases hl : xs.length < 1
    · rw [if_pos hl]; exact (num_end h 1 (.inl rfl) hl)
    · rw [if_neg hl]; exact (num_ok h 1 (.inl rfl) (by omega) (by omega) (by have := be_take_lt xs 1; omega))
  · rw [if_pos he]
    exact (num_err h 1 he).mono fun _ _ ⟨h1, h2⟩ => ⟨h1, h2 ▸ Kp.refl _ _, h2 ▸ h⟩
/-- A vector, whatever the error was. -/
def v1 (xs : List UInt8) (e : Int) : List UInt8 × List UInt8 × Int := if e ≠ 0 then ([], xs, e) else vc xs
theorem v1_any {w : World} {r : Nat} {xs : List UInt8} {e : Int} (h : Rd w r xs e) (hlen : xs.length ≤ 35184372088832) :
    Calls Tryd.prog 22 #[.pointer (some ⟨r, 0, none⟩)] w (TakePost r w (v1 xs e)) := by
  unfold v1
  by_cases he : e = 0
  · subst he; rw [if_neg (by simp)]; exact vector_any h hlen
  · rw [if_pos he]; exact vector_err h he
theorem vc_len (xs : List UInt8) : (vc xs).1.length ≤ xs.length ∧ (vc xs).2.1.length ≤ xs.length := by
  unfold vc
  split
  · simp
  · split
    · simp
    · split
      · simp
      · simp only [List.length_take, List.length_drop]; omega
theorem v1_len (xs : List UInt8) (e : Int) : (v1 xs e).1.length ≤ xs.length ∧ (v1 xs e).2.1.length ≤ xs.length := by
  unfold v1; split
  · simp
  · exact vc_len xs
theorem n1_len (xs : List UInt8) (e : Int) : (n1 xs e).2.1.length ≤ xs.length := by
  unfold n1; split
  · simp
  · split <;> simp

/-- What is read as a leaf, what is left, the error. -/
def rdLeaf (xs : List UInt8) : LeafD × List UInt8 × Int :=
  let a := v1 xs 0
  let b := v1 a.2.1 a.2.2
  let c := v1 b.2.1 b.2.2
  let d := n1 c.2.1 c.2.2
  let h := if d.1 = 3 then v1 d.2.1 d.2.2 else ([], d.2.1, d.2.2)
  let s := v1 h.2.1 h.2.2
  (⟨a.1, b.1, c.1, d.1, h.1, s.1⟩, s.2.1, s.2.2)

/-- A leaf as a value. -/
def LeafO (base : Nat) (w : World) (v : Value) (l : LeafD) : Prop := ∃ A0 A1 A2 A3 A4 C0 C1 C2 C3 C4, 
  v = .agg #[.slice A0 l.enc.length C0, .slice A1 l.sig.length C1, .slice A2 l.name.length C2, .int .i64 l.src, .slice A3 l.hash.length C3, .slice A4 l.sgn.length C4] ∧
  Ob base w (.slice A0 l.enc.length C0) l.enc ∧ Ob base w (.slice A1 l.sig.length C1) l.sig ∧ Ob base w (.slice A2 l.name.length C2) l.name ∧ Ob base w (.slice A3 l.hash.length C3) l.hash ∧ Ob base w (.slice A4 l.sgn.length C4) l.sgn
def RdLeafPost (r : Nat) (w : World) (t : LeafD × List UInt8 × Int) (e : Ending) (w' : World) : Prop := ∃ v, e = .returned v ∧ LeafO w.heap.size w' v t.1 ∧ Kp [r] w w' ∧ Rd w' r t.2.1 t.2.2

/-- A reader's step keeps rows of the call's own. -/
theorem Ob.step {base : Nat} {w w' : World} {r : Nat} {v : Value} {xs ys : List UInt8} {e : Int} (h : Ob base w v xs) (k : Kp [r] w w') (hr : Rd w r ys e) : Ob base w' v xs :=
  h.kp k (fun b hb => by
    obtain ⟨_, cs, hc⟩ := h.block hb
    obtain ⟨sv, hh, _⟩ := hr
    intro hm
    simp at hm
    subst hm
    rw [hh] at hc
    simp at hc)

def leaf0 : Obj := .cells #[.slice none 0 0, .slice none 0 0, .slice none 0 0, .int .i64 0, .slice none 0 0, .slice none 0 0] 29
theorem Rd.set {w : World} {r : Nat} {xs : List UInt8} {e : Int} (h : Rd w r xs e) {b : Nat} {cs : Array Value} {t : TypeId} {f : Nat × Nat} (hb : w.heap[b]? = some (.cells cs t f)) (hn : ∀ i : Nat, ∀ k : Int, cs[i]? ≠ some (.int .u8 k)) (hr : b ≠ r) (i : Nat) (v : Value) :
    Rd (w.setCell ⟨b, i, none⟩ v) r xs e := by
  obtain ⟨sv, hh, hbs⟩ := h
  exact ⟨sv, by rw [Below.heap_setCell _ _ _ _ (by simpa using hr.symm)]; exact hh, hbs.keep ((Kp.refl [b] w).setCell ⟨b, i, none⟩ v (by simp)) (hbs.ne hb hn)⟩
theorem Ob.set {base : Nat} {w : World} {v : Value} {xs : List UInt8} (h : Ob base w v xs) {b : Nat} {cs : Array Value} {t : TypeId} {f : Nat × Nat} (hb : w.heap[b]? = some (.cells cs t f)) (ht : t ≠ 5) (i : Nat) (u : Value) : Ob base (w.setCell ⟨b, i, none⟩ u) v xs :=
  h.kp ((Kp.refl [b] w).setCell ⟨b, i, none⟩ u (by simp)) (fun g hg hm => by
    obtain ⟨_, cs', hc⟩ := h.block hg
    simp at hm
    subst hm
    rw [hb] at hc
    simp at hc
    exact ht hc.2.1)

theorem Ob.kpT {base : Nat} {S : List Nat} {w w' : World} {v : Value} {xs : List UInt8} (h : Ob base w v xs) (k : Kp S w w') (hS : ∀ b, b ∈ S → ∃ cs t f, w.heap[b]? = some (.cells cs t f) ∧ t ≠ 5) : Ob base w' v xs :=
  h.kp k (fun g hg hm => by
    obtain ⟨_, cs', hc⟩ := h.block hg
    obtain ⟨cs, t, f, h1, h2⟩ := hS g hm
    rw [h1] at hc
    simp at hc
    exact h2 hc.2.1)
theorem Rd.kpT {S : List Nat} {w w' : World} {r : Nat} {xs : List UInt8} {e : Int} (h : Rd w r xs e) (k : Kp S w w') (hS : ∀ b, b ∈ S → b ≠ r ∧ ∃ cs t f, w.heap[b]? = some (.cells cs t f) ∧ ∀ i : Nat, ∀ k : Int, cs[i]? ≠ some (.int .u8 k)) : Rd w' r xs e := by
  obtain ⟨sv, hh, hbs⟩ := h
  refine ⟨sv, k.obj hh (fun hm => (hS r hm).1 rfl), hbs.keep k (fun b hb hp hm => ?_)⟩
  obtain ⟨_, cs, t, f, h1, h2⟩ := hS b hm
  exact hbs.ne h1 h2 b hb hp (by simp)
theorem noU8 (v0 v1 v2 v3 v4 : Value) (n : Int) (h0 : ∀ k, v0 ≠ .int .u8 k) (h1 : ∀ k, v1 ≠ .int .u8 k) (h2 : ∀ k, v2 ≠ .int .u8 k) (h3 : ∀ k, v3 ≠ .int .u8 k) (h4 : ∀ k, v4 ≠ .int .u8 k) :
    ∀ i : Nat, ∀ k : Int, (#[v0, v1, v2, .int .i64 n, v3, v4] : Array Value)[i]? ≠ some (.int .u8 k) := by
  intro i k
  rcases i with _ | _ | _ | _ | _ | _ | i <;> simp [*]

set_option maxRecDepth 100000 in
set_option maxHeartbeats 2000000 in
theorem readLeaf_any {w : World} {r : Nat} {xs : List UInt8} (h : Rd w r xs 0) (hlen : xs.length ≤ 17592186044416) :
    Calls Tryd.prog 47 #[.pointer (some ⟨r, 0, none⟩)] w (RdLeafPost r w (rdLeaf xs)) := by
  have la := v1_len xs 0
  rcases hA : v1 xs 0 with ⟨a, ya, ea⟩
  have lb := v1_len ya ea
  rcases hB : v1 ya ea with ⟨b, yb, eb⟩
  have lc := v1_len yb eb
  rcases hC : v1 yb eb with ⟨c, yc, ec⟩
  have ld := n1_len yc ec
  rcases hD : n1 yc ec with ⟨d, yd, ed⟩
  rw [hA] at la; rw [hB] at lb; rw [hC] at lc; rw [hD] at ld
  simp only at la lb lc ld
  have hrl := h.lt
  have hrw : w.heap.size ≠ r := by omega
  have hrw1 : w.heap.size + 1 ≠ r := by omega
  have hV := v1_any (h.kp ((Kp.refl [] w).alloc (leaf0))) (by omega)
  rw [hA] at hV
  unfold leaf0 at hV
  have K0 := Lib.hid ((Kp.refl [] w).alloc (leaf0))
  have HZ := Lib.hid (heap_alloc_new w leaf0)
  have HA := Lib.hid hA
  have HBB := Lib.hid hB
  have HC := Lib.hid hC
  have HD := Lib.hid hD
  clear hA hB hC hD
  by_cases h3 : d = 3
  · subst h3
    rcases hE : v1 yd ed with ⟨hh, yh, eh⟩
    have le := v1_len yd ed
    rcases hF : v1 yh eh with ⟨s, ys, es⟩
    have lf := v1_len yh eh
    rw [hE] at le; rw [hF] at lf
    simp only at le lf
    have hR : rdLeaf xs = (⟨a, b, c, 3, hh, s⟩, ys, es) := by simp [rdLeaf, HA.out, HBB.out, HC.out, HD.out, hE, hF]
    rw [hR]
    have HE := Lib.hid hE
    have HF := Lib.hid hF
    clear hE hF hR
    go_enter Tryd.func47, Tryd.ntmps47
    go_wp2_with fail
    refine hV.mono ?_
    rintro en w1 ⟨A0, C0, rfl, k1, o0, r1⟩
    have hV1 := v1_any (xs := ya) (e := ea) r1 (by omega)
    rw [HBB.out] at hV1
    go_wp2_with fail
    refine hV1.mono ?_
    rintro en w2 ⟨A1, C1, rfl, k2, o1, r2⟩
    have hV2 := v1_any (xs := yb) (e := eb) r2 (by omega)
    rw [HC.out] at hV2
    go_wp2_with fail
    refine hV2.mono ?_
    rintro en w3 ⟨A2, C2, rfl, k3, o2, r3⟩
    have hV3 := n1_any (xs := yc) (e := ec) r3
    rw [HD.out] at hV3
    go_wp2_with fail
    refine hV3.mono ?_
    rintro en w4 ⟨rfl, k4, r4⟩
    go_wp2_with fail
    have hV4 := v1_any (xs := yd) (e := ed) (r4.kp ((Kp.refl [] w4).alloc (.cells #[.slice A0 a.length C0, .slice A1 b.length C1, .slice A2 c.length C2, .int .i64 3, .slice none 0 0, .slice none 0 0] 29))) (by omega)
    rw [HE.out] at hV4
    refine hV4.mono ?_
    rintro en w5 ⟨A3, C3, rfl, k5, o3, r5⟩
    have z1 := k1.size; have z2 := k2.size; have z3 := k3.size; have z4 := k4.size; have z5 := k5.size
    simp only [World.size_alloc] at z1 z5
    have hbr : w4.heap.size ≠ r := by omega
    have HB5 := Lib.hid ((k5.block w4.heap.size (by simp) (by simpa using hbr)).trans (heap_alloc_new _ _))
    have s4 := heap_cell HB5.out 4
    have f4 := heap_free HB5.out 4
    simp at s4
    go_wp2_with fail
    have r5' := r5.set HB5.out (by intro i k; rcases i with _ | _ | _ | _ | _ | _ | i <;> simp) hbr 4 (.slice A3 hh.length C3)
    have HB5' := Lib.hid (heap_set HB5.out 4 (.slice A3 hh.length C3))
    have hV5 := v1_any (xs := yh) (e := eh) r5' (by omega)
    rw [HF.out] at hV5
    refine hV5.mono ?_
    rintro en w6 ⟨A4, C4, rfl, k6, o4, r6⟩
    have z6 := k6.size
    simp only [World.size_setCell] at z6
    have HB6 := Lib.hid ((k6.block w4.heap.size (by simp; omega) (by simpa using hbr)).trans HB5'.out)
    clear s4 f4
    have s0 := heap_cell HB6.out 0
    have s1 := heap_cell HB6.out 1
    have s2 := heap_cell HB6.out 2
    have s3 := heap_cell HB6.out 3
    have s4 := heap_cell HB6.out 4
    have s5 := heap_cell HB6.out 5
    have f5 := heap_free HB6.out 5
    simp at s0 s1 s2 s3 s4 s5
    have hlt4 : w.heap.size < w4.heap.size := by omega
    have hw4 : w.heap.size ≠ w4.heap.size := by omega
    have HZ6 := Lib.hid (k6.obj (set_obj (k5.obj (alloc_obj (k4.obj (k3.obj (k2.obj (k1.obj HZ.out (by simpa using hrw)) (by simpa using hrw)) (by simpa using hrw)) (by simpa using hrw)) _) (by simpa using hrw)) w4.heap.size 4 (.slice A3 hh.length C3) hw4) (by simpa using hrw))
    have t0 := heap_cell HZ6.out 0
    have t1 := heap_cell HZ6.out 1
    have t2 := heap_cell HZ6.out 2
    have t3 := heap_cell HZ6.out 3
    have t4 := heap_cell HZ6.out 4
    have t5 := heap_cell HZ6.out 5
    have g0 := heap_free HZ6.out 0
    have g1 := heap_free HZ6.out 1
    have g2 := heap_free HZ6.out 2
    have g3 := heap_free HZ6.out 3
    have g4 := heap_free HZ6.out 4
    have g5 := heap_free HZ6.out 5
    simp at t0 t1 t2 t3 t4 t5
    go_wp2
    have K7 : Kp [w4.heap.size, w.heap.size] w6 _ := (((((((Kp.refl [w4.heap.size, w.heap.size] w6).setCell ⟨w4.heap.size, 5, none⟩ (.slice A4 s.length C4) (by simp)).setCell ⟨w.heap.size, 0, none⟩ (.slice A0 a.length C0) (by simp)).setCell ⟨w.heap.size, 1, none⟩ (.slice A1 b.length C1) (by simp)).setCell ⟨w.heap.size, 2, none⟩ (.slice A2 c.length C2) (by simp)).setCell ⟨w.heap.size, 3, none⟩ (.int .i64 3) (by simp)).setCell ⟨w.heap.size, 4, none⟩ (.slice A3 hh.length C3) (by simp)).setCell ⟨w.heap.size, 5, none⟩ (.slice A4 s.length C4) (by simp)
    have hT : ∀ b, b ∈ [w4.heap.size, w.heap.size] → ∃ cs t f, w6.heap[b]? = some (.cells cs t f) ∧ t ≠ 5 := by
      intro b hb
      simp at hb
      rcases hb with rfl | rfl
      · exact ⟨_, _, _, HB6.out, by decide⟩
      · exact ⟨_, _, _, HZ6.out, by decide⟩
    have hT2 : ∀ b, b ∈ [w4.heap.size, w.heap.size] → b ≠ r ∧ ∃ cs t f, w6.heap[b]? = some (.cells cs t f) ∧ ∀ i : Nat, ∀ k : Int, cs[i]? ≠ some (.int .u8 k) := by
      intro b hb
      simp at hb
      rcases hb with rfl | rfl
      · exact ⟨hbr, _, _, _, HB6.out, noU8 _ _ _ _ _ _ (by simp) (by simp) (by simp) (by simp) (by simp)⟩
      · exact ⟨hrw, _, _, _, HZ6.out, noU8 _ _ _ _ _ _ (by simp) (by simp) (by simp) (by simp) (by simp)⟩
    have K4 := Lib.hid ((Kp.refl [] w4).alloc (.cells #[.slice A0 a.length C0, .slice A1 b.length C1, .slice A2 c.length C2, .int .i64 3, .slice none 0 0, .slice none 0 0] 29))
    have q4 : ∀ {v xs}, Ob w.heap.size w4 v xs → Ob w.heap.size _ v xs := fun h => (((((h.kp K4.out (by simp)).step k5 (r4.kp K4.out)).set HB5.out (by decide) 4 (.slice A3 hh.length C3)).step k6 r5').kpT K7 hT)
    refine bodyPost_ret (v := .agg #[.slice A0 a.length C0, .slice A1 b.length C1, .slice A2 c.length C2, .int .i64 3, .slice A3 hh.length C3, .slice A4 s.length C4]) (by simp [results, Tryd.results47, go_sem, t0, t1, t2, t3, t4, t5]) rfl
      ⟨_, rfl, ⟨A0, A1, A2, A3, A4, C0, C1, C2, C3, C4, rfl, q4 ((((o0.mono (by simp)).step k2 r1).step k3 r2).step k4 r3), q4 (((o1.mono (by omega)).step k3 r2).step k4 r3), q4 ((o2.mono (by omega)).step k4 r3),
        ((((o3.mono (by simp; omega)).set HB5.out (by decide) 4 (.slice A3 hh.length C3)).step k6 r5').kpT K7 hT), ((o4.mono (by simp; omega)).kpT K7 hT)⟩, ?_, r6.kpT K7 hT2⟩
    have kA : Kp [r] w w4 := (((((K0.out.nil).trans k1).trans k2).trans k3).trans k4)
    have kB := (((kA.alloc (.cells #[.slice A0 a.length C0, .slice A1 b.length C1, .slice A2 c.length C2, .int .i64 3, .slice none 0 0, .slice none 0 0] 29)).trans k5).setCell ⟨w4.heap.size, 4, none⟩ (.slice A3 hh.length C3) (.inr (by simp; omega))).trans k6
    exact kB.old K7 (by intro x hx; simp at hx; omega)
  · have h3' : (d == 3) = false := by simpa using h3
    rcases hF : v1 yd ed with ⟨s, ys, es⟩
    have lf := v1_len yd ed
    rw [hF] at lf
    simp only at lf
    have hR : rdLeaf xs = (⟨a, b, c, d, [], s⟩, ys, es) := by simp [rdLeaf, HA.out, HBB.out, HC.out, HD.out, hF, h3]
    rw [hR]
    have HF := Lib.hid hF
    clear hF hR h3
    go_enter Tryd.func47, Tryd.ntmps47
    go_wp2_with fail
    refine hV.mono ?_
    rintro en w1 ⟨A0, C0, rfl, k1, o0, r1⟩
    have hV1 := v1_any (xs := ya) (e := ea) r1 (by omega)
    rw [HBB.out] at hV1
    go_wp2_with fail
    refine hV1.mono ?_
    rintro en w2 ⟨A1, C1, rfl, k2, o1, r2⟩
    have hV2 := v1_any (xs := yb) (e := eb) r2 (by omega)
    rw [HC.out] at hV2
    go_wp2_with fail
    refine hV2.mono ?_
    rintro en w3 ⟨A2, C2, rfl, k3, o2, r3⟩
    have hV3 := n1_any (xs := yc) (e := ec) r3
    rw [HD.out] at hV3
    go_wp2_with fail
    refine hV3.mono ?_
    rintro en w4 ⟨rfl, k4, r4⟩
    go_wp2_with fail
    have hV5 := v1_any (xs := yd) (e := ed) (r4.kp ((Kp.refl [] w4).alloc (.cells #[.slice A0 a.length C0, .slice A1 b.length C1, .slice A2 c.length C2, .int .i64 d, .slice none 0 0, .slice none 0 0] 29))) (by omega)
    rw [HF.out] at hV5
    refine hV5.mono ?_
    rintro en w6 ⟨A4, C4, rfl, k6, o4, r6⟩
    have z1 := k1.size; have z2 := k2.size; have z3 := k3.size; have z4 := k4.size; have z6 := k6.size
    simp only [World.size_alloc] at z1 z6
    have hbr : w4.heap.size ≠ r := by omega
    have HB6 := Lib.hid (k6.obj (heap_alloc_new _ _) (by simpa using hbr))
    have s0 := heap_cell HB6.out 0
    have s1 := heap_cell HB6.out 1
    have s2 := heap_cell HB6.out 2
    have s3 := heap_cell HB6.out 3
    have s4 := heap_cell HB6.out 4
    have s5 := heap_cell HB6.out 5
    have f5 := heap_free HB6.out 5
    simp at s0 s1 s2 s3 s4 s5
    have hlt4 : w.heap.size < w4.heap.size := by omega
    have hw4 : w.heap.size ≠ w4.heap.size := by omega
    have HZ6 := Lib.hid (k6.obj (alloc_obj (k4.obj (k3.obj (k2.obj (k1.obj HZ.out (by simpa using hrw)) (by simpa using hrw)) (by simpa using hrw)) (by simpa using hrw)) _) (by simpa using hrw))
    have t0 := heap_cell HZ6.out 0
    have t1 := heap_cell HZ6.out 1
    have t2 := heap_cell HZ6.out 2
    have t3 := heap_cell HZ6.out 3
    have t4 := heap_cell HZ6.out 4
    have t5 := heap_cell HZ6.out 5
    have g0 := heap_free HZ6.out 0
    have g1 := heap_free HZ6.out 1
    have g2 := heap_free HZ6.out 2
    have g3 := heap_free HZ6.out 3
    have g4 := heap_free HZ6.out 4
    have g5 := heap_free HZ6.out 5
    simp at t0 t1 t2 t3 t4 t5
    go_wp2
    have K7 : Kp [w4.heap.size, w.heap.size] w6 _ := (((((((Kp.refl [w4.heap.size, w.heap.size] w6).setCell ⟨w4.heap.size, 5, none⟩ (.slice A4 s.length C4) (by simp)).setCell ⟨w.heap.size, 0, none⟩ (.slice A0 a.length C0) (by simp)).setCell ⟨w.heap.size, 1, none⟩ (.slice A1 b.length C1) (by simp)).setCell ⟨w.heap.size, 2, none⟩ (.slice A2 c.length C2) (by simp)).setCell ⟨w.heap.size, 3, none⟩ (.int .i64 d) (by simp)).setCell ⟨w.heap.size, 4, none⟩ (.slice none 0 0) (by simp)).setCell ⟨w.heap.size, 5, none⟩ (.slice A4 s.length C4) (by simp)
    have hT : ∀ b, b ∈ [w4.heap.size, w.heap.size] → ∃ cs t f, w6.heap[b]? = some (.cells cs t f) ∧ t ≠ 5 := by
      intro b hb
      simp at hb
      rcases hb with rfl | rfl
      · exact ⟨_, _, _, HB6.out, by decide⟩
      · exact ⟨_, _, _, HZ6.out, by decide⟩
    have hT2 : ∀ b, b ∈ [w4.heap.size, w.heap.size] → b ≠ r ∧ ∃ cs t f, w6.heap[b]? = some (.cells cs t f) ∧ ∀ i : Nat, ∀ k : Int, cs[i]? ≠ some (.int .u8 k) := by
      intro b hb
      simp at hb
      rcases hb with rfl | rfl
      · exact ⟨hbr, _, _, _, HB6.out, noU8 _ _ _ _ _ _ (by simp) (by simp) (by simp) (by simp) (by simp)⟩
      · exact ⟨hrw, _, _, _, HZ6.out, noU8 _ _ _ _ _ _ (by simp) (by simp) (by simp) (by simp) (by simp)⟩
    have K4 := Lib.hid ((Kp.refl [] w4).alloc (.cells #[.slice A0 a.length C0, .slice A1 b.length C1, .slice A2 c.length C2, .int .i64 d, .slice none 0 0, .slice none 0 0] 29))
    have q4 : ∀ {v xs}, Ob w.heap.size w4 v xs → Ob w.heap.size _ v xs := fun h => ((h.kp K4.out (by simp)).step k6 (r4.kp K4.out)).kpT K7 hT
    refine bodyPost_ret (v := .agg #[.slice A0 a.length C0, .slice A1 b.length C1, .slice A2 c.length C2, .int .i64 d, .slice none 0 0, .slice A4 s.length C4]) (by simp [results, Tryd.results47, go_sem, t0, t1, t2, t3, t4, t5]) rfl
      ⟨_, rfl, ⟨A0, A1, A2, none, A4, C0, C1, C2, 0, C4, rfl, q4 ((((o0.mono (by simp)).step k2 r1).step k3 r2).step k4 r3), q4 (((o1.mono (by omega)).step k3 r2).step k4 r3), q4 ((o2.mono (by omega)).step k4 r3), Ob.nil _ _, ((o4.mono (by simp; omega)).kpT K7 hT)⟩, ?_, r6.kpT K7 hT2⟩
    have kA : Kp [r] w w4 := (((((K0.out.nil).trans k1).trans k2).trans k3).trans k4)
    have kB := ((kA.alloc (.cells #[.slice A0 a.length C0, .slice A1 b.length C1, .slice A2 c.length C2, .int .i64 d, .slice none 0 0, .slice none 0 0] 29)).trans k6)
    exact kB.old K7 (by intro x hx; simp at hx; omega)
end Go.Proofs.YtgmdcmkokdbeoaaDoor
