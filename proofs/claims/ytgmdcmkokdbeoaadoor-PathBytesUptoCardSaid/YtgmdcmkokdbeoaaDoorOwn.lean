/- Typed frames; own rows of pairs. -/
import Derived.Test.YtgmdcmkokdbeoaaDoorPathA
set_option linter.unusedVariables false
namespace Go.Proofs.YtgmdcmkokdbeoaaDoor
open Go.RowKit

/-- Blocks of cells of these types are as they were. -/
def Kt (Ts : List TypeId) (w w' : World) : Prop := ∀ (k : Nat) (cs : Array Value) (t : TypeId) (f : Nat × Nat), w.heap[k]? = some (.cells cs t f) → t ∈ Ts → w'.heap[k]? = some (.cells cs t f)
theorem Kt.refl (Ts : List TypeId) (w : World) : Kt Ts w w := fun _ _ _ _ h _ => h
theorem Kt.trans {Ts : List TypeId} {a b c : World} (h : Kt Ts a b) (k : Kt Ts b c) : Kt Ts a c := fun i cs t f hi ht => k i cs t f (h i cs t f hi ht) ht
theorem Kt.sub {Ts Ss : List TypeId} {a b : World} (h : Kt Ts a b) (hs : ∀ t, t ∈ Ss → t ∈ Ts) : Kt Ss a b := fun i cs t f hi ht => h i cs t f hi (hs t ht)
theorem Kt.of_kp {Ts : List TypeId} {S : List Nat} {w w' : World} (k : Kp S w w') (h : ∀ b, b ∈ S → ∀ (cs : Array Value) (t : TypeId) (f : Nat × Nat), w.heap[b]? = some (.cells cs t f) → t ∉ Ts) : Kt Ts w w' :=
  fun i cs t f hi ht => k.obj hi (fun hm => h i hm cs t f hi ht)
theorem Kt.kp {Ts : List TypeId} {w w' : World} (k : Kp [] w w') : Kt Ts w w' := Kt.of_kp k (by simp)
theorem Kt.one {Ts : List TypeId} {r : Nat} {w w' : World} (k : Kp [r] w w') {cs : Array Value} {t : TypeId} {f : Nat × Nat} (hr : w.heap[r]? = some (.cells cs t f)) (ht : t ∉ Ts) : Kt Ts w w' :=
  Kt.of_kp k (fun b hb cs' t' f' h' => by simp at hb; subst hb; rw [hr] at h'; cases h'; exact ht)
theorem Kt.grown {Ts : List TypeId} {w w' : World} {row : Option Nat} (hg : w.grownBy w' row) (h : ∀ b, row = some b → ∀ (cs : Array Value) (t : TypeId) (f : Nat × Nat), w.heap[b]? = some (.cells cs t f) → t ∉ Ts) : Kt Ts w w' :=
  fun i cs t f hi ht => (hg.block i (Array.getElem?_eq_some_iff.1 hi).1 (fun e => h i e.symm cs t f hi ht)).trans hi

theorem row_kt {Ts : List TypeId} {base : Nat} {w w' : World} {e : TypeId} {size : Nat} {v : Value} {n : Nat} {xs : List Value} (h : w.ownsRow base e size v n xs) (k : Kt Ts w w') (he : e ∈ Ts) : w'.ownsRow base e size v n xs := by
  refine ⟨h.1, ?_⟩
  rcases h.2 with hn | ⟨g, cap, cur, rfl, hb, hg, rest⟩
  · exact .inl hn
  · exact .inr ⟨g, cap, cur, rfl, hb, k _ _ _ _ hg he, rest⟩
theorem row_mono {base base' : Nat} {w : World} {e : TypeId} {size : Nat} {v : Value} {n : Nat} {xs : List Value} (h : w.ownsRow base e size v n xs) (hb : base' ≤ base) : w.ownsRow base' e size v n xs := by
  refine ⟨h.1, ?_⟩
  rcases h.2 with hn | ⟨g, cap, cur, rfl, hb', rest⟩
  · exact .inl hn
  · exact .inr ⟨g, cap, cur, rfl, by omega, rest⟩
theorem row_block {base : Nat} {w : World} {e : TypeId} {size : Nat} {v : Value} {n : Nat} {xs : List Value} (h : w.ownsRow base e size v n xs) {b : Nat} (hb : v.ownBlock = some b) : base ≤ b ∧ ∃ cs, w.heap[b]? = some (.cells cs e (0, 0)) := by
  rcases h.2 with ⟨rfl, h0⟩ | ⟨g, cap, cur, rfl, hb', hg, rest⟩
  · simp [Value.ownBlock] at hb
  · simp [Value.ownBlock] at hb
    subst hb
    exact ⟨hb', _, hg⟩
theorem row_shape {base : Nat} {w : World} {e : TypeId} {size : Nat} {v : Value} {n : Nat} {xs : List Value} (h : w.ownsRow base e size v n xs) : ∃ A C, v = .slice A n C := by
  rcases h.2 with ⟨rfl, h0⟩ | ⟨g, cap, cur, rfl, _⟩
  · exact ⟨none, 0, by rw [h0]⟩
  · exact ⟨_, cap, rfl⟩
theorem row_sl {base : Nat} {w : World} {e : TypeId} {size : Nat} {v : Value} {n : Nat} {xs : List Value} (h : w.ownsRow base e size v n xs) : Sl w size v n xs := by
  have h1 := h.1
  have hcs := fun {g : Nat} (hg : v.ownBlock = some g) => h.cells hg
  rcases h.2 with ⟨rfl, h0⟩ | ⟨g, cap, cur, rfl, hb', hg, h2, h3, h4, h5⟩
  · subst h0
    exact ⟨none, 0, rfl, by simpa using h1, Nat.le_refl _, by omega, fun _ => rfl, fun hp => absurd hp (by omega)⟩
  · refine ⟨_, cap, rfl, h1, h2, by simpa [maxLen] using h3, by simp, fun hp => ⟨g, 0, rfl, fun j u hu => ?_⟩⟩
    have := hcs (g := g) (by simp [Value.ownBlock]) j u hu
    have ha : (⟨g, 0, none⟩ : Addr).add j = ⟨g, 0 + j, none⟩ := by unfold Addr.add; split <;> simp_all
    rw [ha] at this
    exact this

theorem Ob.kt {Ts : List TypeId} {base : Nat} {w w' : World} {v : Value} {xs : List UInt8} (h : Ob base w v xs) (k : Kt Ts w w') (ht : 5 ∈ Ts) : Ob base w' v xs := row_kt h k ht
theorem Rd.kt {Ts : List TypeId} {w w' : World} {r : Nat} {xs : List UInt8} {e : Int} (h : Rd w r xs e) (k : Kt Ts w w') (ht : 5 ∈ Ts) (hr : 99 ∈ Ts) : Rd w' r xs e := by
  obtain ⟨sv, hh, ⟨a, c, rfl, h1, h2, h3, h4⟩, ty⟩ := h
  refine ⟨_, k _ _ _ _ hh hr, ⟨a, c, rfl, h1, h2, h3, fun hp => ?_⟩, fun hp b hb => ?_⟩
  · obtain ⟨g, o, rfl, hc⟩ := h4 hp
    obtain ⟨cs, f, hg⟩ := ty hp g (by simp [Value.ownBlock])
    refine ⟨g, o, rfl, fun i hi => ?_⟩
    rw [← hc i hi]
    exact World.cell?_of_block (w := w) (a := ⟨g, o + i, none⟩) ((k _ _ _ _ hg ht).trans hg.symm)
  · obtain ⟨cs, f, hg⟩ := ty hp b hb
    exact ⟨cs, f, k _ _ _ _ hg ht⟩

/-- A slice of pairs of byte slices, all the call's own. -/
def SealsO (e : TypeId) (base : Nat) (w : World) (v : Value) (ss : List SealD) : Prop := ∃ ps, w.ownsRow base e 2 v ss.length (flat2 ps) ∧ All2 (fun p s => Ob base w p.1 s.1 ∧ Ob base w p.2 s.2) ps ss
def StepsO (e d : TypeId) (base : Nat) (w : World) (v : Value) (ss : List StepD) : Prop := ∃ ps, w.ownsRow base d 2 v ss.length (flat2 ps) ∧ All2 (fun p s => Ob base w p.1 s.1 ∧ SealsO e base w p.2 s.2) ps ss
theorem SealsO.nil (e : TypeId) (base : Nat) (w : World) : SealsO e base w (.slice none 0 0) [] := ⟨[], ⟨rfl, .inl ⟨rfl, rfl⟩⟩, .nil⟩
theorem StepsO.nil (e d : TypeId) (base : Nat) (w : World) : StepsO e d base w (.slice none 0 0) [] := ⟨[], ⟨rfl, .inl ⟨rfl, rfl⟩⟩, .nil⟩
theorem SealsO.kt {Ts : List TypeId} {e : TypeId} {base : Nat} {w w' : World} {v : Value} {ss : List SealD} (h : SealsO e base w v ss) (k : Kt Ts w w') (ht : 5 ∈ Ts) (he : e ∈ Ts) : SealsO e base w' v ss := by
  obtain ⟨ps, h1, h2⟩ := h
  exact ⟨ps, row_kt h1 k he, h2.imp fun _ _ ⟨a, b⟩ => ⟨a.kt k ht, b.kt k ht⟩⟩
theorem StepsO.kt {Ts : List TypeId} {e d : TypeId} {base : Nat} {w w' : World} {v : Value} {ss : List StepD} (h : StepsO e d base w v ss) (k : Kt Ts w w') (ht : 5 ∈ Ts) (he : e ∈ Ts) (hd : d ∈ Ts) : StepsO e d base w' v ss := by
  obtain ⟨ps, h1, h2⟩ := h
  exact ⟨ps, row_kt h1 k hd, h2.imp fun _ _ ⟨a, b⟩ => ⟨a.kt k ht, b.kt k ht he⟩⟩
theorem SealsO.mono {e : TypeId} {base base' : Nat} {w : World} {v : Value} {ss : List SealD} (h : SealsO e base w v ss) (hb : base' ≤ base) : SealsO e base' w v ss := by
  obtain ⟨ps, h1, h2⟩ := h
  exact ⟨ps, row_mono h1 hb, h2.imp fun _ _ ⟨a, b⟩ => ⟨a.mono hb, b.mono hb⟩⟩
theorem StepsO.mono {e d : TypeId} {base base' : Nat} {w : World} {v : Value} {ss : List StepD} (h : StepsO e d base w v ss) (hb : base' ≤ base) : StepsO e d base' w v ss := by
  obtain ⟨ps, h1, h2⟩ := h
  exact ⟨ps, row_mono h1 hb, h2.imp fun _ _ ⟨a, b⟩ => ⟨a.mono hb, b.mono hb⟩⟩
theorem SealsO.read {e : TypeId} {base : Nat} {w : World} {v : Value} {ss : List SealD} (h : SealsO e base w v ss) : SealsV w v ss := by
  obtain ⟨ps, h1, h2⟩ := h
  exact ⟨ps, row_sl h1, h2.imp fun _ _ ⟨a, b⟩ => ⟨a.bs, b.bs⟩⟩
theorem StepsO.read {e d : TypeId} {base : Nat} {w : World} {v : Value} {ss : List StepD} (h : StepsO e d base w v ss) : StepsV w v ss := by
  obtain ⟨ps, h1, h2⟩ := h
  exact ⟨ps, row_sl h1, h2.imp fun _ _ ⟨a, b⟩ => ⟨a.bs, b.read⟩⟩
theorem SealsO.shape {e : TypeId} {base : Nat} {w : World} {v : Value} {ss : List SealD} (h : SealsO e base w v ss) : ∃ A C, v = .slice A ss.length C := by
  obtain ⟨ps, h1, _⟩ := h; exact row_shape h1
theorem StepsO.shape {e d : TypeId} {base : Nat} {w : World} {v : Value} {ss : List StepD} (h : StepsO e d base w v ss) : ∃ A C, v = .slice A ss.length C := by
  obtain ⟨ps, h1, _⟩ := h; exact row_shape h1
theorem SealsO.block {e : TypeId} {base : Nat} {w : World} {v : Value} {ss : List SealD} (h : SealsO e base w v ss) {b : Nat} (hb : v.ownBlock = some b) : base ≤ b ∧ ∃ cs, w.heap[b]? = some (.cells cs e (0, 0)) := by
  obtain ⟨ps, h1, _⟩ := h; exact row_block h1 hb
theorem StepsO.block {e d : TypeId} {base : Nat} {w : World} {v : Value} {ss : List StepD} (h : StepsO e d base w v ss) {b : Nat} (hb : v.ownBlock = some b) : base ≤ b ∧ ∃ cs, w.heap[b]? = some (.cells cs d (0, 0)) := by
  obtain ⟨ps, h1, _⟩ := h; exact row_block h1 hb

/-- What an append of one pair needs to know of the element's type. -/
def PairInfo (t e : TypeId) : Prop := Tryd.prog.underlying t = some (.slice e) ∧ (Tryd.prog.info? e).map (fun i => (i.zero, i.size, i.bytes)) = some (some (.agg #[.slice none 0 0, .slice none 0 0]), 2, 48)

theorem lit_sl (w : World) (a b : Value) (e : TypeId) : Sl (w.alloc (.cells #[a, b] e)) 2 (.slice (some ⟨w.heap.size, 0, none⟩) 1 1) 1 [a, b] :=
  ⟨_, 1, rfl, rfl, Nat.le_refl _, by omega, by simp, fun _ => ⟨w.heap.size, 0, rfl, fun j u hu => by rw [Nat.zero_add, World.cell?_alloc_new]; simpa using hu⟩⟩

theorem run_app_p {w : World} {t ty e : TypeId} (hpi : PairInfo t e) {base : Nat} {v : Value} {n : Nat} {us : List Value} (HO : w.ownsRow base e 2 v n us) {y : Value} {A1 A2 : Option Addr} {n1 n2 C1 C2 : Nat}
    (HX : Sl w 2 y 1 [.slice A1 n1 C1, .slice A2 n2 C2]) (hlen : n ≤ 1099511627776) (hbase : base ≤ w.heap.size) :
    ∃ A C w', (Builtin.append_ #[t, t] ty #[v, y]).run Tryd.prog w = .ok (.slice A (n + 1) C) w' ∧ w'.ownsRow base e 2 (.slice A (n + 1) C) (n + 1) (us ++ [.slice A1 n1 C1, .slice A2 n2 C2]) ∧ w.grownBy w' v.ownBlock := by
  obtain ⟨ht, hi⟩ := hpi
  obtain ⟨i0, hi, hzz⟩ := Option.map_eq_some_iff.1 hi
  simp only [Prod.mk.injEq] at hzz
  obtain ⟨hz0, hz1, hz2⟩ := hzz
  obtain ⟨v', w', hr, h2, h3, h4⟩ := run_app (P := Tryd.prog) w base t ty e i0 _ 2 48 ht hi hz0 hz1 hz2 rfl (by omega) v n us HO y 1 _ HX
    (by intro u hu; simp at hu; rcases hu with rfl | rfl <;> rfl) (by simp only [maxLen]; omega) (by omega) hbase
  obtain ⟨A, C, rfl⟩ := row_shape h2
  exact ⟨A, C, w', hr, h2, h3⟩

/-- append(s, x...) of one pair -/
theorem app_p {w : World} {ops : Array Oper} {rest : List Oper} {o : Oper} {a : Act} {Q : Exit → Act → World → Prop} (hgd : o.guard = none) (s x : Operand) {t e : TypeId} (hpi : PairInfo t e)
    (ho : o.op = .call { callee := .builtin .append, args := #[s, x], argTypes := #[t, t] })
    (base : Nat) {v : Value} {n : Nat} {us : List Value} (HO : w.ownsRow base e 2 v n us) {y : Value} {A1 A2 : Option Addr} {n1 n2 C1 C2 : Nat} (HX : Sl w 2 y 1 [.slice A1 n1 C1, .slice A2 n2 C2]) (hs : a.eval s = v) (hx : a.eval x = y)
    (hlen : n ≤ 1099511627776) (hbase : base ≤ w.heap.size)
    (h : ∀ A C w', w'.ownsRow base e 2 (.slice A (n + 1) C) (n + 1) (us ++ [.slice A1 n1 C1, .slice A2 n2 C2]) → w.grownBy w' v.ownBlock → wpList Tryd.prog ops Q rest (a.put o.dst (.slice A (n + 1) C)) w') :
    wpList Tryd.prog ops Q (o :: rest) a w := by
  refine wpList_plain hgd fun K hK => ?_
  obtain ⟨A, C, w', hr, h2, h3⟩ := run_app_p (ty := o.type) hpi HO HX hlen hbase
  unfold Oper.wp execOp
  simp only [ho, resolve, invoke, builtin, Sem.run_bind, Sem.run_pure, Result.andThen_ok, List.map_toArray, List.map_cons, List.map_nil, hs, hx, hr]
  exact hK _ _ (h A C w' h2 h3)
theorem step_app_p {w : World} {ops : Array Oper} {o : Oper} {a : Act} {K : Act → World → Prop} {Q : Exit → Act → World → Prop} {E : Prop} (hgd : o.guard = none) (s x : Operand) {t e : TypeId} (hpi : PairInfo t e)
    (ho : o.op = .call { callee := .builtin .append, args := #[s, x], argTypes := #[t, t] })
    (base : Nat) {v : Value} {n : Nat} {us : List Value} (HO : w.ownsRow base e 2 v n us) {y : Value} {A1 A2 : Option Addr} {n1 n2 C1 C2 : Nat} (HX : Sl w 2 y 1 [.slice A1 n1 C1, .slice A2 n2 C2]) (hs : a.eval s = v) (hx : a.eval x = y)
    (hlen : n ≤ 1099511627776) (hbase : base ≤ w.heap.size)
    (h : ∀ A C w', w'.ownsRow base e 2 (.slice A (n + 1) C) (n + 1) (us ++ [.slice A1 n1 C1, .slice A2 n2 C2]) → w.grownBy w' v.ownBlock → K (a.put o.dst (.slice A (n + 1) C)) w') :
    if Region.wanted o (yielded ops a.tmps) = true then Oper.wp Tryd.prog o a w K Q else E := by
  have hw : Region.wanted o (yielded ops a.tmps) = true := by simp [Region.wanted, hgd]
  rw [if_pos hw]
  obtain ⟨A, C, w', hr, h2, h3⟩ := run_app_p (ty := o.type) hpi HO HX hlen hbase
  unfold Oper.wp execOp
  simp only [ho, resolve, invoke, builtin, Sem.run_bind, Sem.run_pure, Result.andThen_ok, List.map_toArray, List.map_cons, List.map_nil, hs, hx, hr]
  exact h A C w' h2 h3
end Go.Proofs.YtgmdcmkokdbeoaaDoor
