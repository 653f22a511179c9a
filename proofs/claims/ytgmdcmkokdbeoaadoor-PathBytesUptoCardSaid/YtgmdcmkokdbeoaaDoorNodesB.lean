/- The walks of package nodes: a writer. -/
import Derived.Test.YtgmdcmkokdbeoaaDoorNodesA
import Derived.StillTailTactics
import Derived.Deep.RegionHeld3
import Derived.Deep.RegionLaw
import Derived.Laws.EntriesVeiled
namespace Go.Proofs.YtgmdcmkokdbeoaaDoor
open Go.RowKit

/-- Nothing but block r and rows of bytes from block base on has turned. -/
structure KpB (base r : Nat) (w w' : World) : Prop where
  os : w'.os = w.os
  tape : w'.tape = w.tape
  output : w'.output = w.output
  size : w.heap.size ≤ w'.heap.size
  block : ∀ k o, w.heap[k]? = some o → k ≠ r → (k < base ∨ ∀ cs fz, o ≠ .cells cs 5 fz) → w'.heap[k]? = some o
theorem KpB.refl (base r : Nat) (w : World) : KpB base r w w := ⟨rfl, rfl, rfl, Nat.le_refl _, fun _ _ h _ _ => h⟩
theorem KpB.trans {base r : Nat} {a b c : World} (h : KpB base r a b) (k : KpB base r b c) : KpB base r a c :=
  ⟨k.os.trans h.os, k.tape.trans h.tape, k.output.trans h.output, Nat.le_trans h.size k.size, fun i o hi hr ho => k.block i o (h.block i o hi hr ho) hr ho⟩
theorem KpB.of_kp {base r : Nat} {a b : World} (h : Kp [] a b) : KpB base r a b := ⟨h.os, h.tape, h.output, h.size, fun k o hk _ _ => (h.block k (heap_lt hk) (by simp)).trans hk⟩
theorem KpB.drew {base r : Nat} {a b : World} (h : KpB base r a b) : KpB base r a b.drew := ⟨h.os, h.tape, h.output, h.size, h.block⟩
theorem KpB.drewN {base r : Nat} {a b : World} (h : KpB base r a b) (n : Nat) : KpB base r a (b.drewN n) := ⟨h.os, h.tape, h.output, h.size, h.block⟩
theorem KpB.setCell {base r : Nat} {a b : World} (h : KpB base r a b) (i : Nat) (v : Value) : KpB base r a (b.setCell ⟨r, i, none⟩ v) :=
  ⟨h.os, h.tape, h.output, by simpa [World.setCell] using h.size, fun k o hk hr ho => by rw [Below.heap_setCell _ _ _ _ hr]; exact h.block k o hk hr ho⟩
theorem Ob.block {base : Nat} {w : World} {v : Value} {xs : List UInt8} (h : Ob base w v xs) {b : Nat} (hb : v.ownBlock = some b) : base ≤ b ∧ ∃ cs, w.heap[b]? = some (.cells cs 5 (0, 0)) := by
  rcases h.2 with ⟨rfl, _⟩ | ⟨g, cap, cur, rfl, hg, hh, _⟩
  · simp [Value.ownBlock] at hb
  · have : g = b := by simpa [Value.ownBlock] using hb
    subst this
    exact ⟨hg, cur, hh⟩
theorem KpB.grown {base r : Nat} {a b c : World} {v : Value} {xs : List UInt8} (h : KpB base r a b) (hg : b.grownBy c v.ownBlock) (hv : Ob base b v xs) : KpB base r a c :=
  ⟨hg.os.trans h.os, hg.tape.trans h.tape, hg.output.trans h.output, Nat.le_trans h.size hg.size, fun k o hk hkr ho => by
    have h1 := h.block k o hk hkr ho
    refine (hg.block k (heap_lt h1) (fun e => ?_)).trans h1
    obtain ⟨h2, cs, h3⟩ := hv.block e.symm
    rw [h1] at h3
    rcases ho with ho | ho
    · omega
    · exact ho cs (0, 0) (by injection h3)⟩
theorem KpB.kp {base r : Nat} {w0 a b : World} (h : KpB base r a b) (k : Kp [] w0 a) (hb : w0.heap.size ≤ base) (hr : w0.heap.size ≤ r) : Kp [] w0 b :=
  ⟨h.os.trans k.os, h.tape.trans k.tape, h.output.trans k.output, Nat.le_trans k.size h.size, fun i hi _ => by
    have h1 := k.block i hi (by simp)
    have h2 : ∃ o, w0.heap[i]? = some o := ⟨w0.heap[i], Array.getElem?_eq_getElem hi⟩
    obtain ⟨o, h2⟩ := h2
    rw [h2] at h1 ⊢
    exact h.block i o h1 (by omega) (.inl (by omega))⟩
theorem KpB.cell {base r : Nat} {a b : World} (h : KpB base r a b) {k : Nat} {cs : Array Value} {t : TypeId} {fz : Nat × Nat} (hk : a.heap[k]? = some (.cells cs t fz)) (hr : k ≠ r) (ht : k < base ∨ t ≠ 5) : b.heap[k]? = some (.cells cs t fz) :=
  h.block k _ hk hr (ht.imp id (fun h cs' fz' e => by injection e with _ e2 _; exact h e2))
theorem KpB.bs {base r : Nat} {a b : World} (h : KpB base r a b) {v : Value} {xs : List UInt8} (hv : Bs a v xs) (hlt : ∀ g, v.ownBlock = some g → 0 < xs.length → g < base ∧ g ≠ r) : Bs b v xs := by
  obtain ⟨x, c, rfl, h1, h2, h3, h4⟩ := hv
  refine ⟨x, c, rfl, h1, h2, h3, fun hp => ?_⟩
  obtain ⟨g, o, rfl, hc⟩ := h4 hp
  obtain ⟨hg1, hg2⟩ := hlt g (by simp [Value.ownBlock]) hp
  refine ⟨g, o, rfl, fun i hi => ?_⟩
  have hlt2 := World.block_lt_of_cell? a _ (hc i hi)
  have e : b.heap[g]? = a.heap[g]? := (h.block g _ (Array.getElem?_eq_getElem hlt2) hg2 (.inl hg1)).trans (Array.getElem?_eq_getElem hlt2).symm
  rw [World.cell?_of_block (w := a) (a := ⟨g, o + i, none⟩) e]
  exact hc i hi

/-- A writer at block r, its own variable at block p, what it has written so far. -/
def Wr (base : Nat) (w : World) (r p : Nat) (xs : List UInt8) : Prop :=
  ∃ bb, w.heap[r]? = some (.cells #[bb, .func (.func 62) #[] #[.pointer (some ⟨p, 0, none⟩)], .func (.func 63) #[] #[.pointer (some ⟨p, 0, none⟩)]] 94 (0, 0)) ∧
    w.heap[p]? = some (.cells #[.pointer (some ⟨r, 0, none⟩)] 88 (0, 0)) ∧ Ob base w bb xs ∧ p < base ∧ r < base
theorem Wr.facts {base : Nat} {w : World} {r p : Nat} {xs : List UInt8} (h : Wr base w r p xs) : ∃ A C, w.cell? ⟨r, 0, none⟩ = some (.slice A xs.length C) ∧
    w.cell? ⟨r, 1, none⟩ = some (.func (.func 62) #[] #[.pointer (some ⟨p, 0, none⟩)]) ∧ w.cell? ⟨r, 2, none⟩ = some (.func (.func 63) #[] #[.pointer (some ⟨p, 0, none⟩)]) ∧
    w.cell? ⟨p, 0, none⟩ = some (.pointer (some ⟨r, 0, none⟩)) ∧ w.frozen? ⟨r, 0, none⟩ = false ∧ r ≠ p ∧
    Hid (w.heap[r]? = some (.cells #[.slice A xs.length C, .func (.func 62) #[] #[.pointer (some ⟨p, 0, none⟩)], .func (.func 63) #[] #[.pointer (some ⟨p, 0, none⟩)]] 94 (0, 0))) ∧
    Hid (w.heap[p]? = some (.cells #[.pointer (some ⟨r, 0, none⟩)] 88 (0, 0))) ∧ Ob base w (.slice A xs.length C) xs ∧ p < base ∧ r < base := by
  obtain ⟨bb, h1, h2, h3, h4, h5⟩ := h
  obtain ⟨A, C, rfl⟩ := h3.shape
  refine ⟨A, C, by rw [heap_cell h1 0]; rfl, by rw [heap_cell h1 1]; rfl, by rw [heap_cell h1 2]; rfl, by rw [heap_cell h2 0]; rfl, heap_free h1 0, ?_, h1, h2, h3, h4, h5⟩
  rintro rfl
  rw [h1] at h2
  simp at h2

set_option maxHeartbeats 1000000 in
theorem newWriter_any (w : World) : Calls Tryd.prog 40 #[] w fun e w' => ∃ r p, e = .returned (.pointer (some ⟨r, 0, none⟩)) ∧ Kp [] w w' ∧ w.heap.size ≤ r ∧ Wr w'.heap.size w' r p [] := by
  have hmf : ∀ (fn : Fn) (first cap : Array Value) (w : World), (Instr.makeFunc fn first cap).run Tryd.prog w = .ok (.func fn first cap) w := fun _ _ _ _ => rfl
  go_enter Tryd.func40, Tryd.ntmps40
  go_wp2
  go_ret
  refine ⟨w.heap.size, w.heap.size + 1, rfl, ((Kp.refl [] w).alloc _).alloc _, Nat.le_refl _, .slice none 0 0, ?_, ?_, Ob.nil _ _, by simp, by simp; omega⟩
  · rw [Below.heap_alloc _ _ _ (by simp)]; exact heap_alloc_new _ _
  · have := heap_alloc_new (w.alloc (.cells #[.slice none 0 0, .func (.func 62) #[] #[.pointer (some ⟨w.heap.size + 1, 0, none⟩)], .func (.func 63) #[] #[.pointer (some ⟨w.heap.size + 1, 0, none⟩)]] 94)) (.cells #[.pointer (some ⟨w.heap.size, 0, none⟩)] 88)
    simpa using this

/-- What a writer's append comes to. -/
theorem Wr.put {base : Nat} {w w1 w3 : World} {r p : Nat} {xs zs : List UInt8} {A A3 : Option Addr} {C C3 n : Nat} (h : Wr base w r p xs) (k1 : Kp [] w w1) (o3 : Ob base w3 (.slice A3 n C3) zs)
    (hg : w1.drew.grownBy w3 (Value.slice A xs.length C).ownBlock) (ho : Ob base w (.slice A xs.length C) xs) :
    KpB base r w (w3.setCell ⟨r, 0, none⟩ (.slice A3 n C3)) ∧ Wr base (w3.setCell ⟨r, 0, none⟩ (.slice A3 n C3)) r p zs := by
  obtain ⟨bb, h1, h2, h3, h4, h5⟩ := h
  have hrp : r ≠ p := by rintro rfl; rw [h1] at h2; simp at h2
  have k3 : KpB base r w w3 := ((KpB.of_kp k1).drew).grown hg (v := .slice A xs.length C) (xs := xs) ((ho.kp k1 (by simp)).kp ((Kp.refl [] w1).drew) (by simp))
  have hr3 : w3.heap[r]? = w.heap[r]? := by
    have e1 := k1.block r (heap_lt h1) (by simp)
    refine (hg.block r (by show r < w1.heap.size; have := k1.size; have := heap_lt h1; omega) (fun e => ?_)).trans e1
    obtain ⟨_, cs, hcs⟩ := ho.block e.symm
    rw [h1] at hcs
    simp at hcs
  refine ⟨k3.setCell 0 _, .slice A3 n C3, heap_set (by rw [hr3]; exact h1) 0 _, ?_, o3.kp ((Kp.refl [r] w3).setCell ⟨r, 0, none⟩ _ (by simp)) (fun b hb' => ?_), h4, h5⟩
  · rw [Below.heap_setCell _ _ _ _ (by simpa using hrp.symm)]; exact k3.cell h2 hrp.symm (.inl h4)
  · have := (o3.lt b hb').1
    simp; omega

set_option maxRecDepth 100000 in
set_option maxHeartbeats 1000000 in
theorem w_vector {base : Nat} {w : World} {r p : Nat} {xs : List UInt8} (h : Wr base w r p xs) {v : Value} {xss : List (List UInt8)} (hv : Bss w v xss) (hm : ∀ x ∈ xss, x.length ≤ 65536) (hn : xss.length ≤ 16777216)
    (hx : xs.length ≤ 1099511627776) (hb : base ≤ w.heap.size) :
    Calls Tryd.prog 62 #[v, .pointer (some ⟨p, 0, none⟩)] w fun e w' => e = .returned (.tuple #[]) ∧ KpB base r w w' ∧ Wr base w' r p (xs ++ joinV xss) := by
  have hV := vectors_any hv hm (by omega)
  have hJ := joinV_le xss 65536 hm
  obtain ⟨A, C, c0, c1, c2, d0, f0, hne, H1, H2, ho, hp, hr⟩ := h.facts
  go_enter Tryd.func62, Tryd.ntmps62
  go_wp2_with (go_at_call 37; refine hV.mono ?_; rintro en w1 ⟨A1, C1, rfl, k1, o1⟩; have x0 := k1.get c0 (by simp); have x1 := k1.get d0 (by simp); have x2 := (k1.frozen (p := ⟨r, 0, none⟩) (heap_lt H1.out) (by simp)).trans f0)
  have hrb := ho.lt
  have hks := k1.size
  have hnp : (Value.slice A xs.length C).ownBlock ≠ some p := fun hc => by have := (hrb p hc).1; omega
  have hnr : (Value.slice A xs.length C).ownBlock ≠ some r := fun hc => by have := (hrb r hc).1; omega
  have hrl : r < w1.drew.heap.size := by show r < w1.heap.size; omega
  go_region_law ((refine step_app_b (by rfl) _ _ (by rfl) base ((ho.kp k1 (by simp)).kp ((Kp.refl [] w1).drew) (by simp)) (o1.bs.kp ((Kp.refl [] w1).drew)) (by rfl) (by rfl) (by omega) (by simp; omega) ?_; intro A3 C3 w3 o3 hgrow hat; have y0 := grown_cell hgrow p 0 (v := .pointer (some ⟨r, 0, none⟩)) x1 hnp; have y1 := grown_cell hgrow r 0 (v := .slice A xs.length C) x0 hnr; have y2 := grown_free hgrow r 0 hrl hnr x2))
  all_goals go_end0
  all_goals exact ⟨rfl, Wr.put h k1 o3 hgrow ho⟩

set_option maxRecDepth 100000 in
set_option maxHeartbeats 1000000 in
theorem w_number {base : Nat} {w : World} {r p : Nat} {xs : List UInt8} (h : Wr base w r p xs) (s : Nat) (hs : s = 1 ∨ s = 2 ∨ s = 4 ∨ s = 8) (n : Nat) (hn : n < 2 ^ (bitsOf s).toNat)
    (hx : xs.length ≤ 1099511627776) (hb : base ≤ w.heap.size) :
    Calls Tryd.prog 63 #[.int .i64 n, .int .i64 s, .pointer (some ⟨p, 0, none⟩)] w fun e w' => e = .returned (.tuple #[]) ∧ KpB base r w w' ∧ Wr base w' r p (xs ++ beB s n) := by
  have hV := number_ok s hs n hn w
  have hJ := beB_length s n
  have hs8 : s ≤ 8 := by omega
  obtain ⟨A, C, c0, c1, c2, d0, f0, hne, H1, H2, ho, hp, hr⟩ := h.facts
  go_enter Tryd.func63, Tryd.ntmps63
  go_wp2_with (go_at_call 64; refine hV.mono ?_; rintro en w1 ⟨A1, C1, rfl, k1, o1⟩; have x0 := k1.get c0 (by simp); have x1 := k1.get d0 (by simp); have x2 := (k1.frozen (p := ⟨r, 0, none⟩) (heap_lt H1.out) (by simp)).trans f0)
  have hrb := ho.lt
  have HB := Lib.hid o1.bs
  have HJ := Lib.hid hJ
  clear hJ
  have hks := k1.size
  have hnp : (Value.slice A xs.length C).ownBlock ≠ some p := fun hc => by have := (hrb p hc).1; omega
  have hnr : (Value.slice A xs.length C).ownBlock ≠ some r := fun hc => by have := (hrb r hc).1; omega
  have hrl : r < w1.drew.heap.size := by show r < w1.heap.size; omega
  go_region_law ((refine step_app_b (by rfl) _ _ (by rfl) base ((ho.kp k1 (by simp)).kp ((Kp.refl [] w1).drew) (by simp)) (HB.out.kp ((Kp.refl [] w1).drew)) (by rfl) (by rfl) (by rw [HJ.out]; omega) (by simp; omega) ?_; intro A3 C3 w3 o3 hgrow hat; have y0 := grown_cell hgrow p 0 (v := .pointer (some ⟨r, 0, none⟩)) x1 hnp; have y1 := grown_cell hgrow r 0 (v := .slice A xs.length C) x0 hnr; have y2 := grown_free hgrow r 0 hrl hnr x2))
  all_goals go_end0
  all_goals exact ⟨rfl, Wr.put h k1 o3 hgrow ho⟩

end Go.Proofs.YtgmdcmkokdbeoaaDoor
