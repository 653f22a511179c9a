/- The walks of package nodes: GetLeaf, whole. -/
import Derived.Test.YtgmdcmkokdbeoaaDoorNodesF
set_option linter.unusedVariables false
namespace Go.Proofs.YtgmdcmkokdbeoaaDoor
open Go.RowKit

def leafZ : LeafD := ⟨[], [], [], 0, [], []⟩
theorem got_any {w : World} {r : Nat} {xs : List UInt8} {e : Int} (h : Rd w r xs e) (l : LeafD) {A0 A1 A2 A3 A4 : Option Addr} {C0 C1 C2 C3 C4 : Nat}
    (b0 : Bs w (.slice A0 l.enc.length C0) l.enc) (b1 : Bs w (.slice A1 l.sig.length C1) l.sig) (b2 : Bs w (.slice A2 l.name.length C2) l.name) (b3 : Bs w (.slice A3 l.hash.length C3) l.hash) (b4 : Bs w (.slice A4 l.sgn.length C4) l.sgn)
    {bv : Value} {bs : List UInt8} (hb : Bs w bv bs) (hn : ¬ gotOk l xs e bs) :
    Calls Tryd.prog 46 #[.agg #[.slice A0 l.enc.length C0, .slice A1 l.sig.length C1, .slice A2 l.name.length C2, .int .i64 l.src, .slice A3 l.hash.length C3, .slice A4 l.sgn.length C4], .pointer (some ⟨r, 0, none⟩), .func (.func 17) #[] #[], bv] w
      (GotPost w (.agg #[.slice none 0 0, .slice none 0 0, .slice none 0 0, .int .i64 0, .slice none 0 0, .slice none 0 0]) 21) := by
  by_cases hl : rightL l
  · by_cases he : endOf xs e = 0
    · exact got_ne h l b0 b1 b2 b3 b4 hb hl he (fun hq => hn ⟨he, hl, hq⟩)
    · exact got_end h l b0 b1 b2 b3 b4 hb hl he
  · by_cases he : endOf xs e = 0
    · exact got_no h l b0 b1 b2 b3 b4 hb hl he
    · exact got_end2 h l b0 b1 b2 b3 b4 hb hl he

def okRead (bs : List UInt8) : Prop := gotOk (rdLeaf bs).1 (rdLeaf bs).2.1 (rdLeaf bs).2.2 bs
instance (bs : List UInt8) : Decidable (okRead bs) := by unfold okRead; infer_instance
/-- Bytes as a leaf. -/
def getLeafL (bs : List UInt8) : LeafD := if okRead bs then (rdLeaf bs).1 else leafZ
def getLeafE (bs : List UInt8) : Int := if okRead bs then 0 else 21
def GetLeafPost (w : World) (bs : List UInt8) (e : Ending) (w' : World) : Prop := ∃ v, e = .returned (.tuple #[v, .int .i64 (getLeafE bs)]) ∧ LeafO w.heap.size w' v (getLeafL bs) ∧ Kp [] w w'
theorem LeafO.nil (base : Nat) (w : World) : LeafO base w (.agg #[.slice none 0 0, .slice none 0 0, .slice none 0 0, .int .i64 0, .slice none 0 0, .slice none 0 0]) leafZ :=
  ⟨none, none, none, none, none, 0, 0, 0, 0, 0, rfl, Ob.nil _ _, Ob.nil _ _, Ob.nil _ _, Ob.nil _ _, Ob.nil _ _⟩
theorem LeafO.kpT {base : Nat} {S : List Nat} {w w' : World} {v : Value} {l : LeafD} (h : LeafO base w v l) (k : Kp S w w') (hS : ∀ b, b ∈ S → ∃ cs t f, w.heap[b]? = some (.cells cs t f) ∧ t ≠ 5) : LeafO base w' v l := by
  obtain ⟨A0, A1, A2, A3, A4, C0, C1, C2, C3, C4, rfl, o0, o1, o2, o3, o4⟩ := h
  exact ⟨A0, A1, A2, A3, A4, C0, C1, C2, C3, C4, rfl, o0.kpT k hS, o1.kpT k hS, o2.kpT k hS, o3.kpT k hS, o4.kpT k hS⟩
theorem LeafO.mono {base base' : Nat} {w : World} {v : Value} {l : LeafD} (h : LeafO base w v l) (hb : base' ≤ base) : LeafO base' w v l := by
  obtain ⟨A0, A1, A2, A3, A4, C0, C1, C2, C3, C4, rfl, o0, o1, o2, o3, o4⟩ := h
  exact ⟨A0, A1, A2, A3, A4, C0, C1, C2, C3, C4, rfl, o0.mono hb, o1.mono hb, o2.mono hb, o3.mono hb, o4.mono hb⟩

set_option maxRecDepth 100000 in
set_option maxHeartbeats 2000000 in
theorem getLeaf_any {w : World} {bv : Value} {bs : List UInt8} (hb : Bs w bv bs) (hlen : bs.length ≤ 17592186044416) : Calls Tryd.prog 21 #[bv] w (GetLeafPost w bs) := by
  have K0 := Lib.hid ((Kp.refl [] w).alloc leaf0)
  have HZ := Lib.hid (heap_alloc_new w leaf0)
  have hN := new_any (hb.kp K0.out) (by omega)
  unfold leaf0 at hN
  go_enter Tryd.func21, Tryd.ntmps21
  go_wp2_with fail
  refine hN.mono ?_
  rintro en w1 ⟨r, rfl, hr, k1, r1⟩
  have z1 := hr
  simp only [World.size_alloc] at z1
  have hrw : w.heap.size ≠ r := by omega
  go_wp2_with fail
  refine (readLeaf_any r1 (by omega)).mono ?_
  rintro en w2 ⟨v, rfl, ⟨A0, A1, A2, A3, A4, C0, C1, C2, C3, C4, rfl, o0, o1, o2, o3, o4⟩, k2, r2⟩
  have hbw : Bs w2 bv bs := (hb.kp (K0.out.trans k1)).keep k2 (fun b hb' hp => by
    have := hb.lt hp b hb'
    simp; omega)
  have HZ2 := Lib.hid (k2.obj (k1.obj HZ.out (by simp)) (by simpa using hrw))
  have kk : Kp [] w w2 := (K0.out.trans k1).old k2 (by intro x hx; simp at hx; omega)
  have zz := (K0.out.trans k1).size
  have KK := Lib.hid kk
  by_cases hok : okRead bs
  · have E1 := Lib.hid (show getLeafE bs = 0 from if_pos hok)
    have E2 := Lib.hid (show getLeafL bs = (rdLeaf bs).1 from if_pos hok)
    have hok' := Lib.hid hok
    have hG := got_ok r2 (rdLeaf bs).1 o0.bs o1.bs o2.bs o3.bs o4.bs hbw hok.2.1 hok.1 hok.2.2
    clear hok
    go_wp2_with fail
    refine hG.mono ?_
    rintro en w3 ⟨rfl, k3⟩
    have HZ3 := Lib.hid (k3.obj HZ2.out (by simp))
    have t0 := heap_cell HZ3.out 0
    have t1 := heap_cell HZ3.out 1
    have t2 := heap_cell HZ3.out 2
    have t3 := heap_cell HZ3.out 3
    have t4 := heap_cell HZ3.out 4
    have t5 := heap_cell HZ3.out 5
    have g0 := heap_free HZ3.out 0
    have g1 := heap_free HZ3.out 1
    have g2 := heap_free HZ3.out 2
    have g3 := heap_free HZ3.out 3
    have g4 := heap_free HZ3.out 4
    have g5 := heap_free HZ3.out 5
    simp at t0 t1 t2 t3 t4 t5
    have HL : Hid (LeafO w1.heap.size w2 _ (rdLeaf bs).1) := ⟨A0, A1, A2, A3, A4, C0, C1, C2, C3, C4, rfl, o0, o1, o2, o3, o4⟩
    generalize (rdLeaf bs).1 = l at *
    go_wp2
    refine bodyPost_ret (v := .tuple #[.agg #[.slice A0 l.enc.length C0, .slice A1 l.sig.length C1, .slice A2 l.name.length C2, .int .i64 l.src, .slice A3 l.hash.length C3, .slice A4 l.sgn.length C4], .int .i64 0]) (by simp [results, Tryd.results21, go_sem, t0, t1, t2, t3, t4, t5]) rfl
      ⟨.agg #[.slice A0 l.enc.length C0, .slice A1 l.sig.length C1, .slice A2 l.name.length C2, .int .i64 l.src, .slice A3 l.hash.length C3, .slice A4 l.sgn.length C4], by rw [E1.out], E2.out.symm ▸ (((HL.out.kpT k3 (by simp)).kpT (agg_store (b := w.heap.size) _ _ _ _ _ _) (by intro b hb; simp at hb; subst hb; exact ⟨_, _, _, HZ3.out, by decide⟩)).mono zz), (KK.out.trans k3).old (agg_store (b := w.heap.size) _ _ _ _ _ _) (by intro x hx; simp at hx; omega)⟩
  · have E1 := Lib.hid (show getLeafE bs = 21 from if_neg hok)
    have E2 := Lib.hid (show getLeafL bs = leafZ from if_neg hok)
    have hG := got_any r2 (rdLeaf bs).1 o0.bs o1.bs o2.bs o3.bs o4.bs hbw hok
    clear hok
    go_wp2_with fail
    refine hG.mono ?_
    rintro en w3 ⟨rfl, k3⟩
    have HZ3 := Lib.hid (k3.obj HZ2.out (by simp))
    have t0 := heap_cell HZ3.out 0
    have t1 := heap_cell HZ3.out 1
    have t2 := heap_cell HZ3.out 2
    have t3 := heap_cell HZ3.out 3
    have t4 := heap_cell HZ3.out 4
    have t5 := heap_cell HZ3.out 5
    have g0 := heap_free HZ3.out 0
    have g1 := heap_free HZ3.out 1
    have g2 := heap_free HZ3.out 2
    have g3 := heap_free HZ3.out 3
    have g4 := heap_free HZ3.out 4
    have g5 := heap_free HZ3.out 5
    simp at t0 t1 t2 t3 t4 t5
    go_wp2
    refine bodyPost_ret (v := .tuple #[.agg #[.slice none 0 0, .slice none 0 0, .slice none 0 0, .int .i64 0, .slice none 0 0, .slice none 0 0], .int .i64 21]) (by simp [results, Tryd.results21, go_sem, t0, t1, t2, t3, t4, t5]) rfl
      ⟨.agg #[.slice none 0 0, .slice none 0 0, .slice none 0 0, .int .i64 0, .slice none 0 0, .slice none 0 0], by rw [E1.out], E2.out.symm ▸ LeafO.nil _ _, (KK.out.trans k3).old (agg_store (b := w.heap.size) _ _ _ _ _ _) (by intro x hx; simp at hx; omega)⟩
end Go.Proofs.YtgmdcmkokdbeoaaDoor
