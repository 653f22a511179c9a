/- The walks of package nodes: a leaf is written. -/
import Derived.Test.YtgmdcmkokdbeoaaDoorNodesB
set_option linter.unusedVariables false
namespace Go.Proofs.YtgmdcmkokdbeoaaDoor
open Go.RowKit

theorem Wr.kp {base : Nat} {w w' : World} {r p : Nat} {xs : List UInt8} (h : Wr base w r p xs) (k : Kp [] w w') : Wr base w' r p xs := by
  obtain ⟨bb, h1, h2, h3, h4, h5⟩ := h
  exact ⟨bb, (k.block r (heap_lt h1) (by simp)).trans h1, (k.block p (heap_lt h2) (by simp)).trans h2, h3.kp k (by simp), h4, h5⟩
/-- A literal of slices of bytes. -/
theorem Bss.lit {W : World} (n : Nat) (hn : n = W.heap.size) (cs : Array Value) (m : Nat) (xss : List (List UInt8)) (hm : m = xss.length) (hb : m ≤ 9223372036854775807) (t : TypeId)
    (h : ∀ i, i < xss.length → ∃ A C, cs[i]? = some (.slice A ((xss[i]?).getD []).length C) ∧ Bs W (.slice A ((xss[i]?).getD []).length C) ((xss[i]?).getD [])) :
    Bss (W.alloc (.cells cs t)) (.slice (some ⟨n, 0, none⟩) m m) xss := by
  subst hm hn
  refine ⟨_, _, rfl, Nat.le_refl _, hb, by simp, fun _ => ⟨W.heap.size, 0, rfl, fun i hi => ?_⟩⟩
  obtain ⟨A, C, h1, h2⟩ := h i hi
  refine ⟨A, C, ?_, h2.kp ((Kp.refl [] W).alloc _)⟩
  rw [Nat.zero_add, World.cell?_alloc_new]
  exact h1
theorem Bss.lit3 {W : World} (n : Nat) (hn : n = W.heap.size) (t : TypeId) {A0 A1 A2 : Option Addr} {C0 C1 C2 : Nat} {x0 x1 x2 : List UInt8} (h0 : Bs W (.slice A0 x0.length C0) x0) (h1 : Bs W (.slice A1 x1.length C1) x1) (h2 : Bs W (.slice A2 x2.length C2) x2) :
    Bss (W.alloc (.cells #[.slice A0 x0.length C0, .slice A1 x1.length C1, .slice A2 x2.length C2] t)) (.slice (some ⟨n, 0, none⟩) 3 3) [x0, x1, x2] :=
  Bss.lit n hn _ 3 _ rfl (by omega) t (fun i hi => by
    match i, hi with
    | 0, _ => exact ⟨A0, C0, rfl, h0⟩
    | 1, _ => exact ⟨A1, C1, rfl, h1⟩
    | 2, _ => exact ⟨A2, C2, rfl, h2⟩)
theorem Bss.lit2 {W : World} (n : Nat) (hn : n = W.heap.size) (t : TypeId) {A0 A1 : Option Addr} {C0 C1 : Nat} {x0 x1 : List UInt8} (h0 : Bs W (.slice A0 x0.length C0) x0) (h1 : Bs W (.slice A1 x1.length C1) x1) :
    Bss (W.alloc (.cells #[.slice A0 x0.length C0, .slice A1 x1.length C1] t)) (.slice (some ⟨n, 0, none⟩) 2 2) [x0, x1] :=
  Bss.lit n hn _ 2 _ rfl (by omega) t (fun i hi => by
    match i, hi with
    | 0, _ => exact ⟨A0, C0, rfl, h0⟩
    | 1, _ => exact ⟨A1, C1, rfl, h1⟩)
theorem Bss.lit1 {W : World} (n : Nat) (hn : n = W.heap.size) (t : TypeId) {A0 : Option Addr} {C0 : Nat} {x0 : List UInt8} (h0 : Bs W (.slice A0 x0.length C0) x0) :
    Bss (W.alloc (.cells #[.slice A0 x0.length C0] t)) (.slice (some ⟨n, 0, none⟩) 1 1) [x0] :=
  Bss.lit n hn _ 1 _ rfl (by omega) t (fun i hi => by
    match i, hi with
    | 0, _ => exact ⟨A0, C0, rfl, h0⟩)

theorem alloc2_get (w : World) (o1 o2 : Obj) : ((w.alloc o1).alloc o2).heap[w.heap.size]? = some o1 := by
  rw [Below.heap_alloc _ _ _ (by simp)]; exact heap_alloc_new _ _
theorem alloc2_last (w : World) (o1 o2 : Obj) : ((w.alloc o1).alloc o2).heap[w.heap.size + 1]? = some o2 := by
  have := heap_alloc_new (w.alloc o1) o2
  rwa [World.size_alloc] at this
/-- A leaf without its signature, as bytes. -/
def leafB (l : LeafD) : List UInt8 := joinV [l.enc, l.sig, l.name] ++ beB 1 l.src.toNat ++ (if l.src = 3 then joinV [l.hash] else [])

set_option maxRecDepth 100000 in
set_option maxHeartbeats 2000000 in
theorem w_leaf0 {base : Nat} {w : World} {r p : Nat} {xs : List UInt8} (h : Wr base w r p xs) (enc sig name hash : List UInt8) (N4 : Nat) (SN : Nat) (hsn : SN ≤ 255) (hs3 : SN ≠ 3) {A0 A1 A2 A3 A4 : Option Addr} {C0 C1 C2 C3 C4 : Nat}
    (r1 : enc.length ≤ 64) (r2 : sig.length ≤ 64) (r3 : name.length ≤ 64) (r4 : hash.length ≤ 64)
    (b0 : Bs w (.slice A0 enc.length C0) enc) (b1 : Bs w (.slice A1 sig.length C1) sig) (b2 : Bs w (.slice A2 name.length C2) name) (b3 : Bs w (.slice A3 hash.length C3) hash) (b3' : ∀ g, (Value.slice A3 hash.length C3).ownBlock = some g → 0 < hash.length → g < base ∧ g ≠ r)
    (hx : xs.length ≤ 65536) (hb : base ≤ w.heap.size) :
    Calls Tryd.prog 41 #[.pointer (some ⟨r, 0, none⟩), .agg #[.slice A0 enc.length C0, .slice A1 sig.length C1, .slice A2 name.length C2, .int .i64 SN, .slice A3 hash.length C3, .slice A4 N4 C4]] w
      fun e w' => e = .returned (.tuple #[]) ∧ KpB base r w w' ∧ Wr base w' r p (xs ++ joinV [enc, sig, name] ++ beB 1 SN) := by
  obtain ⟨A, C, c0, c1, c2, d0, f0, hne, H1, H2, ho, hp, hr⟩ := h.facts
  have hJ3 := joinV_le [enc, sig, name] 64 (by intro x hx; simp at hx; rcases hx with rfl | rfl | rfl <;> omega)
  simp only [List.length_cons, List.length_nil] at hJ3
  have hV := w_vector (h.kp (((Kp.refl [] w).alloc (.cells #[.slice A0 enc.length C0, .slice A1 sig.length C1, .slice A2 name.length C2, .int .i64 SN, .slice A3 hash.length C3, .slice A4 N4 C4] 29)).alloc (.cells #[.slice A0 enc.length C0, .slice A1 sig.length C1, .slice A2 name.length C2] 22) |>.drew))
    ((Bss.lit3 (w.heap.size + 1) (by simp) 22 (b0.kp ((Kp.refl [] w).alloc _)) (b1.kp ((Kp.refl [] w).alloc _)) (b2.kp ((Kp.refl [] w).alloc _))).kp ((Kp.refl [] _).drew))
    (by intro x hx; simp at hx; rcases hx with rfl | rfl | rfl <;> omega) (by simp) (by omega) (by simp; omega)
  have H := Lib.hid hV
  have HB := Lib.hid (alloc2_get w (.cells #[.slice A0 enc.length C0, .slice A1 sig.length C1, .slice A2 name.length C2, .int .i64 SN, .slice A3 hash.length C3, .slice A4 N4 C4] 29) (.cells #[.slice A0 enc.length C0, .slice A1 sig.length C1, .slice A2 name.length C2] 22))
  have hrl := heap_lt H1.out
  have hnr : w.heap.size ≠ r := by omega
  have HJ := Lib.hid hJ3
  have K0 := Lib.hid (((Kp.refl [] w).alloc (.cells #[.slice A0 enc.length C0, .slice A1 sig.length C1, .slice A2 name.length C2, .int .i64 SN, .slice A3 hash.length C3, .slice A4 N4 C4] 29)).alloc (.cells #[.slice A0 enc.length C0, .slice A1 sig.length C1, .slice A2 name.length C2] 22) |>.drew)
  clear hV r1 r2 r3 hJ3
  have t3 : ((SN : Int) == 3) = false := by simp; omega
  go_enter Tryd.func41, Tryd.ntmps41
  go_wp2
  go_region_held3 (fun w' => w'.cell? ⟨r, 1, none⟩ = some (.func (.func 62) #[] #[.pointer (some ⟨p, 0, none⟩)]) ∧ w'.cell? ⟨w.heap.size, 0, none⟩ = some (.slice A0 enc.length C0) ∧ w'.cell? ⟨w.heap.size, 1, none⟩ = some (.slice A1 sig.length C1) ∧ w'.cell? ⟨w.heap.size, 2, none⟩ = some (.slice A2 name.length C2))
    (first | go_keep)
    (first | (go_at_call 62; refine H.out.mono ?_; rintro en w2 ⟨rfl, kb, wr2⟩; have HB2 := Lib.hid (kb.cell HB.out hnr (.inr (by decide))); obtain ⟨Aa, Ca, e0, e1, e2, g0, _, _, HH1, HH2, _, _, _⟩ := wr2.facts; have s0 := heap_cell HB2.out 0; have s1 := heap_cell HB2.out 1; have s2 := heap_cell HB2.out 2; have s3 := heap_cell HB2.out 3; have s4 := heap_cell HB2.out 4; simp at s0 s1 s2 s3 s4))
  clear c0 c1 c2 d0 f0
  have hb2 : base ≤ w2.heap.size := by have := kb.size; simp at this; omega
  have hV2 := w_number (wr2.kp ((Kp.refl [] w2).drew)) 1 (.inl rfl) SN (by simp [bitsOf] <;> omega) (by rw [List.length_append]; have := HJ.out; omega) hb2
  have H3 := Lib.hid hV2
  clear hV2
  go_wp2
  go_region_held3 (fun w' => w'.cell? ⟨r, 2, none⟩ = some (.func (.func 63) #[] #[.pointer (some ⟨p, 0, none⟩)]) ∧ w'.cell? ⟨w.heap.size, 3, none⟩ = some (.int .i64 SN))
    (first | go_keep)
    (first | (go_at_call 63; refine H3.out.mono ?_; rintro en w3 ⟨rfl, kc, wr3⟩; have HB3 := Lib.hid (kc.cell (k := w.heap.size) HB2.out hnr (.inr (by decide))); obtain ⟨Ab, Cb, y0, y1, y2, yg, _, _, HY1, HY2, _, _, _⟩ := wr3.facts; have z3 := heap_cell HB3.out 3; have z4 := heap_cell HB3.out 4; simp at z3 z4))
  go_wp2
  go_end0
  exact ⟨rfl, ((KpB.of_kp K0.out).trans kb).trans (((KpB.refl _ _ _).drew).trans kc), wr3⟩
set_option maxRecDepth 100000 in
set_option maxHeartbeats 2000000 in
theorem w_leaf3 {base : Nat} {w : World} {r p : Nat} {xs : List UInt8} (h : Wr base w r p xs) (enc sig name hash : List UInt8) (N4 : Nat) {A0 A1 A2 A3 A4 : Option Addr} {C0 C1 C2 C3 C4 : Nat}
    (r1 : enc.length ≤ 64) (r2 : sig.length ≤ 64) (r3 : name.length ≤ 64) (r4 : hash.length ≤ 64)
    (b0 : Bs w (.slice A0 enc.length C0) enc) (b1 : Bs w (.slice A1 sig.length C1) sig) (b2 : Bs w (.slice A2 name.length C2) name) (b3 : Bs w (.slice A3 hash.length C3) hash) (b3' : ∀ g, (Value.slice A3 hash.length C3).ownBlock = some g → 0 < hash.length → g < base ∧ g ≠ r)
    (hx : xs.length ≤ 65536) (hb : base ≤ w.heap.size) :
    Calls Tryd.prog 41 #[.pointer (some ⟨r, 0, none⟩), .agg #[.slice A0 enc.length C0, .slice A1 sig.length C1, .slice A2 name.length C2, .int .i64 3, .slice A3 hash.length C3, .slice A4 N4 C4]] w
      fun e w' => e = .returned (.tuple #[]) ∧ KpB base r w w' ∧ Wr base w' r p (xs ++ joinV [enc, sig, name] ++ beB 1 3 ++ joinV [hash]) := by
  obtain ⟨A, C, c0, c1, c2, d0, f0, hne, H1, H2, ho, hp, hr⟩ := h.facts
  have hJ3 := joinV_le [enc, sig, name] 64 (by intro x hx; simp at hx; rcases hx with rfl | rfl | rfl <;> omega)
  simp only [List.length_cons, List.length_nil] at hJ3
  have hV := w_vector (h.kp (((Kp.refl [] w).alloc (.cells #[.slice A0 enc.length C0, .slice A1 sig.length C1, .slice A2 name.length C2, .int .i64 3, .slice A3 hash.length C3, .slice A4 N4 C4] 29)).alloc (.cells #[.slice A0 enc.length C0, .slice A1 sig.length C1, .slice A2 name.length C2] 22) |>.drew))
    ((Bss.lit3 (w.heap.size + 1) (by simp) 22 (b0.kp ((Kp.refl [] w).alloc _)) (b1.kp ((Kp.refl [] w).alloc _)) (b2.kp ((Kp.refl [] w).alloc _))).kp ((Kp.refl [] _).drew))
    (by intro x hx; simp at hx; rcases hx with rfl | rfl | rfl <;> omega) (by simp) (by omega) (by simp; omega)
  have H := Lib.hid hV
  have HB := Lib.hid (alloc2_get w (.cells #[.slice A0 enc.length C0, .slice A1 sig.length C1, .slice A2 name.length C2, .int .i64 3, .slice A3 hash.length C3, .slice A4 N4 C4] 29) (.cells #[.slice A0 enc.length C0, .slice A1 sig.length C1, .slice A2 name.length C2] 22))
  have hrl := heap_lt H1.out
  have hnr : w.heap.size ≠ r := by omega
  have HJ := Lib.hid hJ3
  have K0 := Lib.hid (((Kp.refl [] w).alloc (.cells #[.slice A0 enc.length C0, .slice A1 sig.length C1, .slice A2 name.length C2, .int .i64 3, .slice A3 hash.length C3, .slice A4 N4 C4] 29)).alloc (.cells #[.slice A0 enc.length C0, .slice A1 sig.length C1, .slice A2 name.length C2] 22) |>.drew)
  clear hV r1 r2 r3 hJ3
  go_enter Tryd.func41, Tryd.ntmps41
  go_wp2
  go_region_held3 (fun w' => w'.cell? ⟨r, 1, none⟩ = some (.func (.func 62) #[] #[.pointer (some ⟨p, 0, none⟩)]) ∧ w'.cell? ⟨w.heap.size, 0, none⟩ = some (.slice A0 enc.length C0) ∧ w'.cell? ⟨w.heap.size, 1, none⟩ = some (.slice A1 sig.length C1) ∧ w'.cell? ⟨w.heap.size, 2, none⟩ = some (.slice A2 name.length C2))
    (first | go_keep)
    (first | (go_at_call 62; refine H.out.mono ?_; rintro en w2 ⟨rfl, kb, wr2⟩; have HB2 := Lib.hid (kb.cell HB.out hnr (.inr (by decide))); obtain ⟨Aa, Ca, e0, e1, e2, g0, _, _, HH1, HH2, _, _, _⟩ := wr2.facts; have s0 := heap_cell HB2.out 0; have s1 := heap_cell HB2.out 1; have s2 := heap_cell HB2.out 2; have s3 := heap_cell HB2.out 3; have s4 := heap_cell HB2.out 4; simp at s0 s1 s2 s3 s4))
  clear c0 c1 c2 d0 f0
  have hb2 : base ≤ w2.heap.size := by have := kb.size; simp at this; omega
  have hV2 := w_number (wr2.kp ((Kp.refl [] w2).drew)) 1 (.inl rfl) 3 (by simp [bitsOf] <;> omega) (by rw [List.length_append]; have := HJ.out; omega) hb2
  have H3 := Lib.hid hV2
  clear hV2
  go_wp2
  go_region_held3 (fun w' => w'.cell? ⟨r, 2, none⟩ = some (.func (.func 63) #[] #[.pointer (some ⟨p, 0, none⟩)]) ∧ w'.cell? ⟨w.heap.size, 3, none⟩ = some (.int .i64 3))
    (first | go_keep)
    (first | (go_at_call 63; refine H3.out.mono ?_; rintro en w3 ⟨rfl, kc, wr3⟩; have HB3 := Lib.hid (kc.cell (k := w.heap.size) HB2.out hnr (.inr (by decide))); obtain ⟨Ab, Cb, y0, y1, y2, yg, _, _, HY1, HY2, _, _, _⟩ := wr3.facts; have z3 := heap_cell HB3.out 3; have z4 := heap_cell HB3.out 4; simp at z3 z4))
  go_wp2
  clear e0 e1 e2 g0 s0 s1 s2 s3 s4
  have hb3 : base ≤ w3.heap.size := by have := kc.size; simp at this; omega
  have b3b := kc.bs ((kb.bs (b3.kp K0.out) b3').kp ((Kp.refl [] w2).drew)) b3'
  have hJ1 := joinV_le [hash] 64 (by intro x hx; simp at hx; subst hx; omega)
  simp only [List.length_cons, List.length_nil] at hJ1
  have hV4 := w_vector (wr3.kp ((Kp.refl [] w3).alloc (.cells #[.slice A3 hash.length C3] 22) |>.drew)) ((Bss.lit1 w3.heap.size rfl 22 b3b).kp ((Kp.refl [] _).drew))
    (by intro x hx; simp at hx; subst hx; omega) (by simp) (by simp only [List.length_append, beB_length]; have := HJ.out; omega) (by simp; omega)
  have H5 := Lib.hid hV4
  have K3 := Lib.hid ((Kp.refl [] w3).alloc (.cells #[.slice A3 hash.length C3] 22) |>.drew)
  clear hV4 hJ1
  go_region_held3 (fun w' => w'.cell? ⟨r, 1, none⟩ = some (.func (.func 62) #[] #[.pointer (some ⟨p, 0, none⟩)]) ∧ w'.cell? ⟨w.heap.size, 4, none⟩ = some (.slice A3 hash.length C3))
    (first | go_keep)
    (first | (go_at_call 62; refine H5.out.mono ?_; rintro en w4 ⟨rfl, kd, wr4⟩; obtain ⟨Ac, Cc, v0, v1, v2, vg, _, _, HW1, HW2, _, _, _⟩ := wr4.facts; have HB4 := Lib.hid (kd.cell (k := w.heap.size) ((K3.out.block w.heap.size (heap_lt HB3.out) (by simp)).trans HB3.out) hnr (.inr (by decide))); have x4 := heap_cell HB4.out 4; simp at x4))
  go_wp2
  go_end0
  exact ⟨rfl, (((KpB.of_kp K0.out).trans kb).trans (((KpB.refl _ _ _).drew).trans kc)).trans ((KpB.of_kp K3.out).trans kd), wr4⟩

theorem w_leaf {base : Nat} {w : World} {r p : Nat} {xs : List UInt8} (h : Wr base w r p xs) (l : LeafD) (hl : rightL l) {A0 A1 A2 A3 A4 : Option Addr} {C0 C1 C2 C3 C4 : Nat}
    (b0 : Bs w (.slice A0 l.enc.length C0) l.enc) (b1 : Bs w (.slice A1 l.sig.length C1) l.sig) (b2 : Bs w (.slice A2 l.name.length C2) l.name) (b3 : Bs w (.slice A3 l.hash.length C3) l.hash) (b3' : ∀ g, (Value.slice A3 l.hash.length C3).ownBlock = some g → 0 < l.hash.length → g < base ∧ g ≠ r)
    (hx : xs.length ≤ 65536) (hb : base ≤ w.heap.size) :
    Calls Tryd.prog 41 #[.pointer (some ⟨r, 0, none⟩), .agg #[.slice A0 l.enc.length C0, .slice A1 l.sig.length C1, .slice A2 l.name.length C2, .int .i64 l.src, .slice A3 l.hash.length C3, .slice A4 l.sgn.length C4]] w
      fun e w' => e = .returned (.tuple #[]) ∧ KpB base r w w' ∧ Wr base w' r p (xs ++ leafB l) := by
  obtain ⟨enc, sig, name, src, hash, sgn⟩ := l
  obtain ⟨r1, r2, r3, ⟨r4, r5, r6, r7⟩, r8⟩ := hl
  simp only at *
  obtain ⟨n, rfl⟩ : ∃ n : Nat, src = n := ⟨src.toNat, by omega⟩
  by_cases h3 : n = 3
  · subst h3
    have := w_leaf3 h enc sig name hash sgn.length (A4 := A4) (C4 := C4) (by omega) (by omega) (by omega) (by omega) b0 b1 b2 b3 b3' hx hb
    simpa [leafB, List.append_assoc] using this
  · have := w_leaf0 h enc sig name hash sgn.length n (by omega) h3 (A4 := A4) (C4 := C4) (by omega) (by omega) (by omega) (by omega) b0 b1 b2 b3 b3' hx hb
    have e3 : ¬ ((n : Int) = 3) := by omega
    simpa [leafB, List.append_assoc, e3] using this
end Go.Proofs.YtgmdcmkokdbeoaaDoor
