/- A path is copied: what the rounds keep. -/
import Derived.Test.YtgmdcmkokdbeoaaDoorLawB
set_option linter.unusedVariables false
set_option linter.unusedSimpArgs false
namespace Go.Proofs.YtgmdcmkokdbeoaaDoor
open Go.RowKit

/-- Between two rounds of the outer loop. -/
structure LpJ (w : World) (b2 b7 : Nat) (A0 A1 A2 A3 A4 : Option Addr) (C0 C1 C2 C3 C4 : Nat) (l : LeafD) (ss : List StepD) (W : World) : Prop where
  kp : Kp [] w W
  h2 : W.heap[b2]? = some pathZ
  h7 : ∃ A C, W.heap[b7]? = some (.cells (pathCells A0 A1 A2 A3 A4 A C0 C1 C2 C3 C4 C l ss.length) 32 (0, 0)) ∧ StepsO 57 54 w.heap.size W (.slice A ss.length C) ss
  o0 : Ob w.heap.size W (.slice A0 l.enc.length C0) l.enc
  o1 : Ob w.heap.size W (.slice A1 l.sig.length C1) l.sig
  o2 : Ob w.heap.size W (.slice A2 l.name.length C2) l.name
  o3 : Ob w.heap.size W (.slice A3 l.hash.length C3) l.hash
  o4 : Ob w.heap.size W (.slice A4 l.sgn.length C4) l.sgn
theorem LpJ.kt {w : World} {b2 b7 : Nat} {A0 A1 A2 A3 A4 : Option Addr} {C0 C1 C2 C3 C4 : Nat} {l : LeafD} {ss : List StepD} {W W' : World} (h : LpJ w b2 b7 A0 A1 A2 A3 A4 C0 C1 C2 C3 C4 l ss W)
    (kt : Kt builtT W W') (kp : Kp [] w W') : LpJ w b2 b7 A0 A1 A2 A3 A4 C0 C1 C2 C3 C4 l ss W' := by
  obtain ⟨_, h2, ⟨A, C, h7, hs⟩, o0, o1, o2, o3, o4⟩ := h
  exact ⟨kp, kt _ _ _ _ h2 (by decide), ⟨A, C, kt _ _ _ _ h7 (by decide), hs.kt kt (by decide) (by decide) (by decide)⟩, o0.kt kt (by decide), o1.kt kt (by decide), o2.kt kt (by decide), o3.kt kt (by decide), o4.kt kt (by decide)⟩

/-- A step more. -/
theorem LpJ.add {w : World} {b2 b7 : Nat} {A0 A1 A2 A3 A4 : Option Addr} {C0 C1 C2 C3 C4 : Nat} {l : LeafD} {acc : List StepD} {W W2 W4 : World} (J : LpJ w b2 b7 A0 A1 A2 A3 A4 C0 C1 C2 C3 C4 l acc W)
    {A7 A9 Ak A : Option Addr} {C7 C9 Ck C : Nat} {key : List UInt8} {acc2 : List SealD} {qs : List (Value × Value)}
    (h7 : W.heap[b7]? = some (.cells (pathCells A0 A1 A2 A3 A4 A7 C0 C1 C2 C3 C4 C7 l acc.length) 32 (0, 0)))
    (hrow : W.ownsRow w.heap.size 54 2 (.slice A7 acc.length C7) acc.length (flat2 qs)) (hall : All2 (fun p s => Ob w.heap.size W p.1 s.1 ∧ SealsO 57 w.heap.size W p.2 s.2) qs acc)
    (ok : Ob w.heap.size W (.slice Ak key.length Ck) key) (hs : SealsO 57 w.heap.size W (.slice A acc2.length C) acc2)
    (hrow9 : W2.ownsRow w.heap.size 54 2 (.slice A9 (acc.length + 1) C9) (acc.length + 1) (flat2 qs ++ [.slice Ak key.length Ck, .slice A acc2.length C]))
    (hg : (W.alloc (.cells #[.slice Ak key.length Ck, .slice A acc2.length C] 54)).grownBy W2 (Value.slice A7 acc.length C7).ownBlock)
    (hne : b2 ≠ b7) (hb7 : w.heap.size ≤ b7) (k14 : Kp [] (W2.setCell ⟨b7, 6, none⟩ (.slice A9 (acc.length + 1) C9)) W4) :
    LpJ w b2 b7 A0 A1 A2 A3 A4 C0 C1 C2 C3 C4 l (acc ++ [(key, acc2)]) W4 := by
  have hrA : (W.alloc (.cells #[.slice Ak key.length Ck, .slice A acc2.length C] 54)).ownsRow w.heap.size 54 2 (.slice A7 acc.length C7) acc.length (flat2 qs) :=
    row_kt hrow (Kt.kp (Ts := [54]) ((Kp.refl [] W).alloc _)) (by decide)
  have ka : Kp [] W (W.alloc (.cells #[.slice Ak key.length Ck, .slice A acc2.length C] 54)) := (Kp.refl [] W).alloc _
  have kt1 : Kt [5, 57, 32] W W2 := (Kt.kp ka).trans (row_ktG hrA hg (by decide))
  have h72 := kt1 _ _ _ _ h7 (by decide)
  have kt2 : Kt [5, 57, 54] W2 W4 := (Kt.one ((Kp.refl [b7] W2).setCell ⟨b7, 6, none⟩ _ (by simp)) h72 (by decide)).trans (Kt.kp k14)
  have kp2 : Kp [] w W2 := (J.kp.alloc _).grown hg (fun b hb => .inr (row_block hrA hb).1)
  have oo : ∀ {v xs}, Ob w.heap.size W v xs → Ob w.heap.size W4 v xs := fun h => (h.kt kt1 (by decide)).kt kt2 (by decide)
  refine ⟨(kp2.setCell _ _ (.inr hb7)).trans k14, k14.obj (set_obj (kt1 _ _ _ _ J.h2 (by decide)) b7 6 _ hne) (by simp), ⟨A9, C9, ?_, ?_⟩, oo J.o0, oo J.o1, oo J.o2, oo J.o3, oo J.o4⟩
  · rw [List.length_append]
    exact k14.obj (heap_set h72 6 _) (by simp)
  · exact (StepsO.add (hall.imp fun _ _ ⟨a, b⟩ => ⟨a, b⟩) ok hs kt1 (by decide) (by decide) hrow9).kt kt2 (by decide) (by decide) (by decide)

/-- A pair more, in the copy. -/
theorem LpI.add {V W W5 W7 : World} {bx : Nat} {Ak A A9 P1 P2 : Option Addr} {Ck C C9 D1 D2 : Nat} {key p1 p2 : List UInt8} {acc2 : List SealD} {qs : List (Value × Value)}
    (hkp : Kp [bx] V W) (hx : W.heap[bx]? = some (.cells #[.slice Ak key.length Ck, .slice A acc2.length C] 54 (0, 0)))
    (hrow : W.ownsRow V.heap.size 57 2 (.slice A acc2.length C) acc2.length (flat2 qs)) (hall : All2 (fun p s => Ob V.heap.size W p.1 s.1 ∧ Ob V.heap.size W p.2 s.2) qs acc2)
    (k5 : Kp [] W W5) (o1 : Ob V.heap.size W5 (.slice P1 p1.length D1) p1) (o2 : Ob V.heap.size W5 (.slice P2 p2.length D2) p2)
    (hrow9 : W7.ownsRow V.heap.size 57 2 (.slice A9 (acc2.length + 1) C9) (acc2.length + 1) (flat2 qs ++ [.slice P1 p1.length D1, .slice P2 p2.length D2]))
    (hg : (W5.alloc (.cells #[.slice P1 p1.length D1, .slice P2 p2.length D2] 57)).grownBy W7 (Value.slice A acc2.length C).ownBlock) :
    Kp [bx] V (W7.setCell ⟨bx, 1, none⟩ (.slice A9 (acc2.length + 1) C9)) ∧ (W7.setCell ⟨bx, 1, none⟩ (.slice A9 (acc2.length + 1) C9)).heap[bx]? = some (.cells #[.slice Ak key.length Ck, .slice A9 (acc2 ++ [(p1, p2)]).length C9] 54 (0, 0)) ∧
      SealsO 57 V.heap.size (W7.setCell ⟨bx, 1, none⟩ (.slice A9 (acc2.length + 1) C9)) (.slice A9 (acc2 ++ [(p1, p2)]).length C9) (acc2 ++ [(p1, p2)]) := by
  have t5 : Kt [5, 57, 54] W W5 := Kt.kp k5
  have ka : Kp [] W5 (W5.alloc (.cells #[.slice P1 p1.length D1, .slice P2 p2.length D2] 57)) := (Kp.refl [] W5).alloc _
  have hrA := row_kt (row_kt hrow t5 (by decide)) (Kt.kp (Ts := [57]) ka) (by decide)
  have t7 : Kt [5, 54] W5 W7 := (Kt.kp ka).trans (row_ktG hrA hg (by decide))
  have hx7 := t7 _ _ _ _ (t5 _ _ _ _ hx (by decide)) (by decide)
  have t8 : Kt [5, 57] W7 (W7.setCell ⟨bx, 1, none⟩ (.slice A9 (acc2.length + 1) C9)) := Kt.one ((Kp.refl [bx] W7).setCell ⟨bx, 1, none⟩ _ (by simp)) hx7 (by decide)
  refine ⟨?_, ?_, ?_⟩
  · refine (((hkp.trans k5.nil).alloc _).grown hg (fun b hb => .inr (row_block hrA hb).1)).setCell _ _ (.inl (by simp))
  · rw [List.length_append]
    exact heap_set hx7 1 _
  · exact (SealsO.add (hall.imp fun _ _ ⟨a, b⟩ => ⟨(a.kt t5 (by decide)), (b.kt t5 (by decide))⟩) o1 o2 t7 (by decide) hrow9).kt t8 (by decide) (by decide)

/-- append to a slice of no bytes that was just made, in a region that draws its order. -/
theorem step_app_e {w : World} {ops : Array Oper} {o : Oper} {a : Act} {K : Act → World → Prop} {Q : Exit → Act → World → Prop} {E : Prop} (hgd : o.guard = none) (s x : Operand)
    (ho : o.op = .call { callee := .builtin .append, args := #[s, x], argTypes := #[22, 22] })
    {y : Value} (g : Nat) (hs : a.eval s = .slice (some ⟨g, 0, none⟩) 0 0) (hx : a.eval x = y) (base : Nat) (ys : List UInt8) (hg : w.heap[g]? = some (.cells #[] 5 (0, 0))) (hb : base ≤ g) (HX : Bs w y ys)
    (hlen : ys.length ≤ 70368744177664)
    (h : ∀ A C w', Ob base w' (.slice A ys.length C) ys → Kp [g] w w' → (∀ b, (Value.slice A ys.length C).ownBlock = some b → b = g ∨ b = w.heap.size) → K (a.put o.dst (.slice A ys.length C)) w') :
    if Region.wanted o (yielded ops a.tmps) = true then Oper.wp Tryd.prog o a w K Q else E :=
  step_app_b (xs := []) hgd s x ho base ⟨rfl, .inr ⟨g, 0, #[], rfl, hb, hg, Nat.le_refl _, by decide, rfl, rfl⟩⟩ HX hs hx (by simpa using hlen) (Nat.le_trans hb (Nat.le_of_lt (heap_lt hg))) (fun A C w' h1 h2 h3 => by
    simp only [List.nil_append, List.length_nil, Nat.zero_add] at h1 h3 ⊢
    refine h A C w' h1 ?_ ?_
    · exact (Kp.refl [g] w).grown h2 (fun k hk => .inl (by simp [Value.ownBlock] at hk; simp [hk]))
    · intro b hb
      rcases h3 with h3 | h3
      · rw [h3] at hb; simp [Value.ownBlock] at hb; exact .inl hb.symm
      · rw [h3] at hb; cases hb; exact .inr rfl)

theorem Ob.apart {base : Nat} {w w' : World} {v : Value} {xs : List UInt8} {g g' n : Nat} (h : Ob base w v xs) (k : Kp [g'] w w') (hA : ∀ b, v.ownBlock = some b → b = g ∨ b = n) (h1 : g ≠ g') (h2 : n ≠ g') : Ob base w' v xs :=
  h.kp k (fun b hb hm => by
    have := hA b hb
    simp at hm
    omega)
theorem Ob.fresh {base : Nat} {w w' : World} {v : Value} {xs : List UInt8} {o : Obj} (h : Ob base w v xs) (k : Kp [w.heap.size] (w.alloc o) w') : Ob base w' v xs :=
  (h.kp ((Kp.refl [] w).alloc o) (by simp)).kp k (fun b hb hm => by
    have := (h.lt b hb).2
    simp at hm
    omega)
theorem step_app_f {W1 w : World} {ops : Array Oper} {o : Oper} {a : Act} {K : Act → World → Prop} {Q : Exit → Act → World → Prop} {E : Prop} (hgd : o.guard = none) (s x : Operand)
    (ho : o.op = .call { callee := .builtin .append, args := #[s, x], argTypes := #[22, 22] })
    {y : Value} {g : Nat} (hs : a.eval s = .slice (some ⟨g, 0, none⟩) 0 0) (hx : a.eval x = y) (base : Nat) (ys : List UInt8) (k0 : Kp [] W1 w) (hg : w.heap[g]? = some (.cells #[] 5 (0, 0))) (hb : base ≤ g) (hgW : W1.heap.size ≤ g) (HX : Bs w y ys)
    (hlen : ys.length ≤ 70368744177664)
    (h : ∀ A C w', Ob base w' (.slice A ys.length C) ys → Kp [g] w w' → Kp [] W1 w' → (∀ b, (Value.slice A ys.length C).ownBlock = some b → b = g ∨ b = w.heap.size) → K (a.put o.dst (.slice A ys.length C)) w') :
    if Region.wanted o (yielded ops a.tmps) = true then Oper.wp Tryd.prog o a w K Q else E :=
  step_app_e hgd s x ho g hs hx base ys hg hb HX hlen (fun A C w' h1 h2 h3 => h A C w' h1 h2 (k0.old h2 (by intro q hq; simp at hq; subst hq; exact .inr hgW)) h3)
end Go.Proofs.YtgmdcmkokdbeoaaDoor
