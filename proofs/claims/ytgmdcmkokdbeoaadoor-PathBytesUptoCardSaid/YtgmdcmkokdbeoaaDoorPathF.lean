/- path.read; what the rounds of GetPath keep. -/
import Derived.Test.YtgmdcmkokdbeoaaDoorPathE
set_option linter.unusedVariables false
namespace Go.Proofs.YtgmdcmkokdbeoaaDoor
open Go.RowKit

theorem mk_read (w : World) (v : Value) : (Instr.makeFunc (.func 51) #[] #[v]).run Tryd.prog w = .ok (.func (.func 51) #[] #[v]) w := by kernel_rfl
set_option maxHeartbeats 400000 in
theorem read_any (w : World) (r : Nat) : Calls Tryd.prog 23 #[.pointer (some ⟨r, 0, none⟩)] w fun e w' => e = .returned (.func (.func 51) #[] #[.pointer (some ⟨w.heap.size, 0, none⟩)]) ∧ w' = w.alloc (.cells #[.pointer (some ⟨r, 0, none⟩)] 62) := by
  have hmf := mk_read
  go_enter Tryd.func23, Tryd.ntmps23
  go_wp2
  go_ret
  exact ⟨rfl, rfl⟩

/-- The types of what GetPath builds. -/
def builtT : List TypeId := [5, 57, 54, 32]
theorem pi_steps : PairInfo 30 54 := ⟨Tryd.underlying30, by kernel_rfl⟩
theorem pi_seals : PairInfo 52 57 := ⟨Tryd.underlying52, by kernel_rfl⟩
def pathCells (A0 A1 A2 A3 A4 A5 : Option Addr) (C0 C1 C2 C3 C4 C5 : Nat) (l : LeafD) (n : Nat) : Array Value :=
  #[.slice A0 l.enc.length C0, .slice A1 l.sig.length C1, .slice A2 l.name.length C2, .int .i64 l.src, .slice A3 l.hash.length C3, .slice A4 l.sgn.length C4, .slice A5 n C5]
def pathZ : Obj := .cells #[.slice none 0 0, .slice none 0 0, .slice none 0 0, .int .i64 0, .slice none 0 0, .slice none 0 0, .slice none 0 0] 32 (0, 0)

/-- Between two rounds of the outer loop. -/
structure GpJ (w : World) (p2 p7 k D : Nat) (rec : Loop) (A0 A1 A2 A3 A4 : Option Addr) (C0 C1 C2 C3 C4 : Nat) (l : LeafD) (ss : List StepD) (W : World) : Prop where
  kp : Kp [] w W
  h2 : W.heap[p2]? = some pathZ
  h7 : ∃ A C, W.heap[p7]? = some (.cells (pathCells A0 A1 A2 A3 A4 A C0 C1 C2 C3 C4 C l ss.length) 32 (0, 0)) ∧ StepsO 57 54 w.heap.size W (.slice A ss.length C) ss
  o0 : Ob w.heap.size W (.slice A0 l.enc.length C0) l.enc
  o1 : Ob w.heap.size W (.slice A1 l.sig.length C1) l.sig
  o2 : Ob w.heap.size W (.slice A2 l.name.length C2) l.name
  o3 : Ob w.heap.size W (.slice A3 l.hash.length C3) l.hash
  o4 : Ob w.heap.size W (.slice A4 l.sgn.length C4) l.sgn
  hl : W.heap[k]? = some (.loop rec)
  hD : W.heap[D]? = some (.deferred (some []))
theorem GpJ.kt {w : World} {p2 p7 k D : Nat} {rec : Loop} {A0 A1 A2 A3 A4 : Option Addr} {C0 C1 C2 C3 C4 : Nat} {l : LeafD} {ss : List StepD} {W W' : World} (h : GpJ w p2 p7 k D rec A0 A1 A2 A3 A4 C0 C1 C2 C3 C4 l ss W)
    (kt : Kt builtT W W') (kp : Kp [] w W') {rec' : Loop} (hl : W'.heap[k]? = some (.loop rec')) (hD : W'.heap[D]? = some (.deferred (some []))) : GpJ w p2 p7 k D rec' A0 A1 A2 A3 A4 C0 C1 C2 C3 C4 l ss W' := by
  obtain ⟨_, h2, ⟨A, C, h7, hs⟩, o0, o1, o2, o3, o4, _, _⟩ := h
  exact ⟨kp, kt _ _ _ _ h2 (by decide), ⟨A, C, kt _ _ _ _ h7 (by decide), hs.kt kt (by decide) (by decide) (by decide)⟩, o0.kt kt (by decide), o1.kt kt (by decide), o2.kt kt (by decide), o3.kt kt (by decide), o4.kt kt (by decide), hl, hD⟩
/-- A reader's step keeps it. -/
theorem GpJ.step {w : World} {p2 p7 k D : Nat} {rec : Loop} {A0 A1 A2 A3 A4 : Option Addr} {C0 C1 C2 C3 C4 : Nat} {l : LeafD} {ss : List StepD} {W W' : World} (h : GpJ w p2 p7 k D rec A0 A1 A2 A3 A4 C0 C1 C2 C3 C4 l ss W)
    {r : Nat} {ys : List UInt8} {e : Int} (kr : Kp [r] W W') (hr : Rd W r ys e) (hb : w.heap.size ≤ r) : GpJ w p2 p7 k D rec A0 A1 A2 A3 A4 C0 C1 C2 C3 C4 l ss W' := by
  obtain ⟨cs, hc⟩ := hr.kind
  refine h.kt (Kt.one kr hc (by decide)) (h.kp.old kr (by intro x hx; simp at hx; omega)) (kr.obj h.hl ?_) (kr.obj h.hD ?_)
  · intro hm
    simp at hm
    have := h.hl
    rw [hm, hc] at this; cases this
  · intro hm
    simp at hm
    have := h.hD
    rw [hm, hc] at this; cases this
theorem GpJ.keep {w : World} {p2 p7 k D : Nat} {rec : Loop} {A0 A1 A2 A3 A4 : Option Addr} {C0 C1 C2 C3 C4 : Nat} {l : LeafD} {ss : List StepD} {W W' : World} (h : GpJ w p2 p7 k D rec A0 A1 A2 A3 A4 C0 C1 C2 C3 C4 l ss W)
    (kr : Kp [] W W') : GpJ w p2 p7 k D rec A0 A1 A2 A3 A4 C0 C1 C2 C3 C4 l ss W' :=
  h.kt (Kt.kp kr) (h.kp.trans kr) (kr.obj h.hl (by simp)) (kr.obj h.hD (by simp))

/-- Between two rounds of the inner loop: W₁ is the outer round's beginning; the outer loop's record is k. -/
structure GpI (W₁ : World) (k : Nat) (rec : Loop) (p10 k2 : Nat) (rec2 : Loop) (Ak : Option Addr) (Ck : Nat) (key : List UInt8) (ps : List SealD) (W : World) : Prop where
  kp : Kp [k] W₁ W
  hk : W.heap[k]? = some (.loop rec)
  h10 : ∃ A C, W.heap[p10]? = some (.cells #[.slice Ak key.length Ck, .slice A ps.length C] 54 (0, 0)) ∧ SealsO 57 W₁.heap.size W (.slice A ps.length C) ps
  hl2 : W.heap[k2]? = some (.loop rec2)
theorem GpI.step {W₁ : World} {k : Nat} {rec : Loop} {p10 k2 : Nat} {rec2 : Loop} {Ak : Option Addr} {Ck : Nat} {key : List UInt8} {ps : List SealD} {W W' : World}
    (h : GpI W₁ k rec p10 k2 rec2 Ak Ck key ps W)
    {r : Nat} {ys : List UInt8} {e : Int} (kr : Kp [r] W W') (hr : Rd W r ys e) (hb1 : W₁.heap.size ≤ r) : GpI W₁ k rec p10 k2 rec2 Ak Ck key ps W' := by
  obtain ⟨cs, hc⟩ := hr.kind
  have kb : Kt builtT W W' := Kt.one kr hc (by decide)
  obtain ⟨kp, hk, ⟨A, C, h10, hs⟩, hl2⟩ := h
  refine ⟨kp.old kr (by intro x hx; simp at hx; omega), kr.obj hk ?_, ⟨A, C, kb _ _ _ _ h10 (by decide), hs.kt kb (by decide) (by decide)⟩, kr.obj hl2 ?_⟩
  · intro hm
    simp at hm
    rw [hm, hc] at hk; cases hk
  · intro hm
    simp at hm
    rw [hm, hc] at hl2; cases hl2
/-- The inner loop's record may turn. -/
theorem GpI.put {W₁ : World} {k : Nat} {rec : Loop} {p10 k2 : Nat} {rec2 : Loop} {Ak : Option Addr} {Ck : Nat} {key : List UInt8} {ps : List SealD} {W : World}
    (h : GpI W₁ k rec p10 k2 rec2 Ak Ck key ps W) (rec2' : Loop) (h2 : W₁.heap.size ≤ k2) (hne : k ≠ k2) : GpI W₁ k rec p10 k2 rec2' Ak Ck key ps (W.putObj k2 (.loop rec2')) := by
  obtain ⟨kp, hk, ⟨A, C, h10, hs⟩, hl2⟩ := h
  have kb : Kt builtT W (W.putObj k2 (.loop rec2')) := Kt.loop hl2 _
  exact ⟨kp.putObj _ _ (.inr h2), put_obj hk _ _ hne, ⟨A, C, kb _ _ _ _ h10 (by decide), hs.kt kb (by decide) (by decide)⟩, World.putObj_heap_same (Array.getElem?_eq_some_iff.1 hl2).1⟩

theorem row_ktG {Ts : List TypeId} {base : Nat} {w w' : World} {e : TypeId} {size : Nat} {v : Value} {n : Nat} {xs : List Value} (h : w.ownsRow base e size v n xs) (hg : w.grownBy w' v.ownBlock) (he : e ∉ Ts) : Kt Ts w w' :=
  Kt.grown hg (fun b hb cs t f hc => by
    obtain ⟨_, cs', h2⟩ := row_block h hb
    rw [h2] at hc; cases hc; exact he)
theorem row_kpG {S : List Nat} {base : Nat} {a w w' : World} {e : TypeId} {size : Nat} {v : Value} {n : Nat} {xs : List Value} (k : Kp S a w) (h : w.ownsRow base e size v n xs) (hg : w.grownBy w' v.ownBlock) (hb : a.heap.size ≤ base) : Kp S a w' :=
  k.grown hg (fun b hb' => .inr (Nat.le_trans hb (row_block h hb').1))
theorem SealsO.add {e : TypeId} {base : Nat} {w w' : World} {qs : List (Value × Value)} {ps : List SealD} {y : SealD} {A1 A2 A : Option Addr} {C1 C2 C : Nat} (hall : All2 (fun p s => Ob base w p.1 s.1 ∧ Ob base w p.2 s.2) qs ps)
    (h1 : Ob base w (.slice A1 y.1.length C1) y.1) (h2 : Ob base w (.slice A2 y.2.length C2) y.2) {Ts : List TypeId} (kt : Kt Ts w w') (ht : 5 ∈ Ts)
    (hrow : w'.ownsRow base e 2 (.slice A (ps.length + 1) C) (ps.length + 1) (flat2 qs ++ [.slice A1 y.1.length C1, .slice A2 y.2.length C2])) : SealsO e base w' (.slice A (ps ++ [y]).length C) (ps ++ [y]) :=
  ⟨qs ++ [(.slice A1 y.1.length C1, .slice A2 y.2.length C2)], by rw [flat2_snoc, List.length_append]; exact hrow, (hall.imp fun _ _ ⟨a, b⟩ => ⟨a.kt kt ht, b.kt kt ht⟩).snoc ⟨h1.kt kt ht, h2.kt kt ht⟩⟩
theorem StepsO.add {e d : TypeId} {base : Nat} {w w' : World} {qs : List (Value × Value)} {ps : List StepD} {y : StepD} {A1 A2 A : Option Addr} {C1 C2 C : Nat} (hall : All2 (fun p s => Ob base w p.1 s.1 ∧ SealsO e base w p.2 s.2) qs ps)
    (h1 : Ob base w (.slice A1 y.1.length C1) y.1) (h2 : SealsO e base w (.slice A2 y.2.length C2) y.2) {Ts : List TypeId} (kt : Kt Ts w w') (ht : 5 ∈ Ts) (he : e ∈ Ts)
    (hrow : w'.ownsRow base d 2 (.slice A (ps.length + 1) C) (ps.length + 1) (flat2 qs ++ [.slice A1 y.1.length C1, .slice A2 y.2.length C2])) : StepsO e d base w' (.slice A (ps ++ [y]).length C) (ps ++ [y]) :=
  ⟨qs ++ [(.slice A1 y.1.length C1, .slice A2 y.2.length C2)], by rw [flat2_snoc, List.length_append]; exact hrow, (hall.imp fun _ _ ⟨a, b⟩ => ⟨a.kt kt ht, b.kt kt ht he⟩).snoc ⟨h1.kt kt ht, h2.kt kt ht he⟩⟩
end Go.Proofs.YtgmdcmkokdbeoaaDoor
