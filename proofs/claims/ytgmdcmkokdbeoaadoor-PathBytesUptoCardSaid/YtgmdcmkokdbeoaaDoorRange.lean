/- Ranges over a function, in the wide fence: laws that leave the iterator free to change cells of its own. -/
import Derived.Test.YtgmdcmkokdbeoaaDoorOwn
import Derived.RangeFuncNested
import Derived.RangeFuncLeaves
import Derived.TacticsInMore
import Derived.OwnWalkIn
import Derived.LoopNIn
import Derived.LoopIn
import Derived.Shelf.Abstract
set_option linter.unusedVariables false
namespace Go.Proofs.YtgmdcmkokdbeoaaDoor
open Go.RowKit

theorem Kp.putObj {S : List Nat} {a b : World} (h : Kp S a b) (l : Nat) (o : Obj) (hp : l ∈ S ∨ a.heap.size ≤ l) : Kp S a (b.putObj l o) :=
  ⟨h.os, h.tape, h.output, by simpa using h.size, fun k hk hS => by
    rw [World.putObj_heap_other (by rintro rfl; exact hp.elim hS (by omega))]; exact h.block k hk hS⟩
theorem put_obj {w : World} {k : Nat} {o : Obj} (hk : w.heap[k]? = some o) (l : Nat) (o' : Obj) (hne : k ≠ l) : (w.putObj l o').heap[k]? = some o := (World.putObj_heap_other hne).trans hk
theorem Kt.loop {Ts : List TypeId} {w : World} {l : Nat} {r : Loop} (h : w.heap[l]? = some (.loop r)) (o : Obj) : Kt Ts w (w.putObj l o) :=
  fun k cs t f hk ht => put_obj hk l o (by rintro rfl; rw [h] at hk; cases hk)
theorem Kt.deferred {Ts : List TypeId} {w : World} {l : Nat} {r : Option (List Deferred)} (h : w.heap[l]? = some (.deferred r)) (o : Obj) : Kt Ts w (w.putObj l o) :=
  fun k cs t f hk ht => put_obj hk l o (by rintro rfl; rw [h] at hk; cases hk)

section
variable {P : Program} {F : Fence} {n : Nat}

/-- A round whose body runs off its end. -/
theorem yield_round {l : Nat} {rec : Loop} {W : World} {vs : Array Value} {R : World → Prop} (hl : W.heap[l]? = some (.loop rec)) (hF : F.fn rec.fn) (hs : vs.size = rec.params.size) (hst : rec.state = .ready) (hpe : rec.pending = none)
    (h : rec.assign.wpIn (F.inRound l) n P (Exit.then (fun a1 w1 => w1.heap[l]? = some (.loop rec) ∧
        rec.body.wpIn (F.inRound l) n P (fun e a2 w2 => e = .normal ∧ w2.heap[l]? = some (.loop { rec with state := .busy }) ∧ R (w2.putObj l (.loop rec))) a1 (w1.putObj l (.loop { rec with state := .busy }))) (fun _ _ _ => False))
      { tmps := (rec.params.zip vs).foldl (fun t (p, v) => t.setIfInBounds p v) rec.tmps, defers := [] } W) :
    YieldAt F n P l vs W (fun e W' => e = .returned (.bool true) ∧ R W') := by
  refine ⟨rec.fn, _, rec.assign, rec.body, run_yield hl hs, roundIn_of_wpIn hF (wpIn_mono h ?_)⟩
  intro e a1 w1 hp
  cases e <;> first | exact hp.elim | skip
  obtain ⟨hl1, hb⟩ := hp
  refine ⟨_, run_beginRound hl1 hst, wpIn_mono hb ?_⟩
  rintro e a2 w2 ⟨rfl, hl2, hR⟩
  refine ⟨_, _, run_endRound none hl2, rfl, ?_⟩
  have he : ({ rec with state := .ready, pending := none } : Loop) = rec := by cases rec; simp_all
  show R (w2.putObj l (.loop { rec with state := .ready, pending := none }))
  rw [he]; exact hR

/-- The record of an outermost loop, and the world in which it lies. -/
def recOf (fn : FuncId) (a : Act) (ps : Array Tmp) (assign body : Code) (D : Nat) : Loop := { state := .ready, pending := none, fn, tmps := a.tmps, params := ps, assign, body, defers := D }
theorem recOf_assign (fn : FuncId) (a : Act) (ps : Array Tmp) (assign body : Code) (D : Nat) : (recOf fn a ps assign body D).assign = assign := rfl
theorem recOf_body (fn : FuncId) (a : Act) (ps : Array Tmp) (assign body : Code) (D : Nat) : (recOf fn a ps assign body D).body = body := rfl
theorem recOf_params (fn : FuncId) (a : Act) (ps : Array Tmp) (assign body : Code) (D : Nat) : (recOf fn a ps assign body D).params = ps := rfl
theorem recOf_tmps (fn : FuncId) (a : Act) (ps : Array Tmp) (assign body : Code) (D : Nat) : (recOf fn a ps assign body D).tmps = a.tmps := rfl
def busy (r : Loop) : Loop := { r with state := .busy }
/-- The same, the record's words given one by one. -/
theorem yield_round' {l : Nat} {rec : Loop} {W : World} {vs : Array Value} {R : World → Prop} {ca cb : Code} {ps : Array Tmp} {ts : Array Value} (ha : rec.assign = ca) (hb : rec.body = cb) (hp : rec.params = ps) (ht : rec.tmps = ts)
    (hl : W.heap[l]? = some (.loop rec)) (hF : F.fn rec.fn) (hs : vs.size = ps.size) (hst : rec.state = .ready) (hpe : rec.pending = none)
    (h : ca.wpIn (F.inRound l) n P (Exit.then (fun a1 w1 => w1.heap[l]? = some (.loop rec) ∧
        cb.wpIn (F.inRound l) n P (fun e a2 w2 => e = .normal ∧ w2.heap[l]? = some (.loop (busy rec)) ∧ R (w2.putObj l (.loop rec))) a1 (w1.putObj l (.loop (busy rec)))) (fun _ _ _ => False))
      { tmps := (ps.zip vs).foldl (fun t (p, v) => t.setIfInBounds p v) ts, defers := [] } W) :
    YieldAt F n P l vs W (fun e W' => e = .returned (.bool true) ∧ R W') := by
  subst ha hb hp ht
  exact yield_round hl hF hs hst hpe h
def laidW (w : World) (r : Loop) : World := (w.alloc (.deferred (some []))).alloc (.loop r)

/-- An outermost loop over a closure whose rounds all run off their ends. -/
theorem range_outer {g : Operand} {ps : Array Tmp} {assign body : Code} {Q : Exit → Act → World → Prop} {a : Act} {w : World} (hro : F.round = none) (h1 : F.depth.isSome = true → 1 ≤ n)
    {gf : Nat} {lb : Array Value} (hg : a.eval g = .func (.func gf) #[] lb) (hFg : F.fn gf) (eg : ∀ args w, (callFunc gf args).run P w = .ok (.enter gf args) w)
    (K : World → Prop)
    (hcall : ∀ fn, F.fn fn → CallsIn F (n - 1) P gf (#[.func (.yield (w.heap.size + 1)) #[] #[]] ++ lb) (laidW w (recOf fn a ps assign body w.heap.size))
      (fun e W2 => (∃ v, e = .returned v) ∧ W2.heap[w.heap.size + 1]? = some (.loop (recOf fn a ps assign body w.heap.size)) ∧ K W2))
    (hdone : ∀ rec W2 (X : Loop), W2.heap[w.heap.size + 1]? = some (.loop rec) → K W2 →
      Q .normal { a with defers := { target := .collected w.heap.size, args := #[] } :: a.defers } (W2.putObj (w.heap.size + 1) (.loop X))) :
    (Code.rangeFunc g ps assign body).wpIn F n P Q a w := by
  refine wpIn_rangeFunc ?_
  intro fn hfn
  rw [hro]
  refine ⟨w.heap.size + 1, [{ target := .collected w.heap.size, args := #[] }], laidW w (recOf fn a ps assign body w.heap.size), { target := .fn (.func gf) lb, args := #[.func (.yield (w.heap.size + 1)) #[] #[]] }, laidW w (recOf fn a ps assign body w.heap.size), gf,
    #[.func (.yield (w.heap.size + 1)) #[] #[]] ++ lb, laidW w (recOf fn a ps assign body w.heap.size), run_enterLoop_outer _ _ _ _ _, ?_, ?_, ?_, h1, ?_⟩
  · simp only [resolve, hg]
    simp [go_sem]
  · intro f' hf'; simp [Target.leads] at hf'; subst hf'; exact hFg
  · simp [invoke, go_sem, eg]
  · refine (hcall fn hfn).mono ?_
    rintro e W2 ⟨⟨v, rfl⟩, hl, hK⟩
    exact ⟨none, _, run_endLoop hl (by simp [recOf]), hdone _ W2 _ hl hK⟩

/-- A loop in a round of loop l₀. -/
theorem range_inner {l₀ : Nat} {r₀ : Loop} {g : Operand} {ps : Array Tmp} {assign body : Code} {Q : Exit → Act → World → Prop} {a : Act} {w : World} (hro : F.round = some l₀) (h0 : w.heap[l₀]? = some (.loop r₀)) (h1 : F.depth.isSome = true → 1 ≤ n)
    {gf : Nat} {lb : Array Value} (hg : a.eval g = .func (.func gf) #[] lb) (hFg : F.fn gf) (eg : ∀ args w, (callFunc gf args).run P w = .ok (.enter gf args) w)
    (K : World → Prop)
    (hcall : ∀ fn, F.fn fn → CallsIn F (n - 1) P gf (#[.func (.yield w.heap.size) #[] #[]] ++ lb) (w.alloc (.loop (recOf fn a ps assign body r₀.defers)))
      (fun e W2 => (∃ v, e = .returned v) ∧ W2.heap[w.heap.size]? = some (.loop (recOf fn a ps assign body r₀.defers)) ∧ K W2))
    (hdone : ∀ rec W2 (X : Loop), W2.heap[w.heap.size]? = some (.loop rec) → K W2 → Q .normal a (W2.putObj w.heap.size (.loop X))) :
    (Code.rangeFunc g ps assign body).wpIn F n P Q a w := by
  refine wpIn_rangeFunc ?_
  intro fn hfn
  rw [hro]
  refine ⟨w.heap.size, [], w.alloc (.loop (recOf fn a ps assign body r₀.defers)), { target := .fn (.func gf) lb, args := #[.func (.yield w.heap.size) #[] #[]] }, w.alloc (.loop (recOf fn a ps assign body r₀.defers)), gf,
    #[.func (.yield w.heap.size) #[] #[]] ++ lb, w.alloc (.loop (recOf fn a ps assign body r₀.defers)), run_enterLoop_inner h0 _ _ _ _ _, ?_, ?_, ?_, h1, ?_⟩
  · simp only [resolve, hg]
    simp [go_sem]
  · intro f' hf'; simp [Target.leads] at hf'; subst hf'; exact hFg
  · simp [invoke, go_sem, eg]
  · refine (hcall fn hfn).mono ?_
    rintro e W2 ⟨⟨v, rfl⟩, hl, hK⟩
    exact ⟨none, _, run_endLoop hl (by simp [recOf]), by simpa using hdone _ W2 _ hl hK⟩
end

/-- append of one pair, in a round. -/
theorem appIn_p {F : Fence} {n₀ : Nat} {w : World} {ops : Array Oper} {rest : List Oper} {o : Oper} {a : Act} {Q : Exit → Act → World → Prop} (hgd : o.guard = none) (s x : Operand) {t e : TypeId} (hpi : PairInfo t e)
    (ho : o.op = .call { callee := .builtin .append, args := #[s, x], argTypes := #[t, t] })
    (base : Nat) {v : Value} {n : Nat} {us : List Value} (HO : w.ownsRow base e 2 v n us) {y : Value} {A1 A2 : Option Addr} {n1 n2 C1 C2 : Nat} (HX : Sl w 2 y 1 [.slice A1 n1 C1, .slice A2 n2 C2]) (hs : a.eval s = v) (hx : a.eval x = y)
    (hlen : n ≤ 1099511627776) (hbase : base ≤ w.heap.size)
    (h : ∀ A C w', w'.ownsRow base e 2 (.slice A (n + 1) C) (n + 1) (us ++ [.slice A1 n1 C1, .slice A2 n2 C2]) → w.grownBy w' v.ownBlock → wpListIn F n₀ Tryd.prog ops Q rest (a.put o.dst (.slice A (n + 1) C)) w') :
    wpListIn F n₀ Tryd.prog ops Q (o :: rest) a w := by
  refine wpListIn_plain hgd fun K hK => ?_
  obtain ⟨A, C, w', hr, h2, h3⟩ := run_app_p (ty := o.type) hpi HO HX hlen hbase
  unfold Oper.wpIn
  refine ⟨?_, ?_⟩
  · simp [Oper.about, ho, resolve, Target.leads, Sem.run_pure]
  · rw [Oper.semAt_plain F _ _ (by rw [ho]; intro c hc'; cases hc')]
    simp [execOp, ho, resolve, invoke, builtin, hs, hx, hr, Result.andThen]
    exact hK _ _ (h A C w' h2 h3)
/-- A typed frame goes on behind what touches new blocks, or blocks of other types. -/
theorem Kt.old {Ts : List TypeId} {a b c : World} {S : List Nat} (h : Kt Ts a b) (k : Kp S b c) (hS : ∀ x, x ∈ S → a.heap.size ≤ x ∨ ∀ (cs : Array Value) (t : TypeId) (f : Nat × Nat), b.heap[x]? = some (.cells cs t f) → t ∉ Ts) : Kt Ts a c :=
  fun i cs t f hi ht => by
    have h1 := h i cs t f hi ht
    refine k.obj h1 (fun hm => ?_)
    rcases hS i hm with h2 | h2
    · have := (Array.getElem?_eq_some_iff.1 hi).1; omega
    · exact h2 cs t f h1 ht
theorem Kp.of_grown {w w' : World} {row : Option Nat} {b : Nat} (hg : w.grownBy w' row) (hr : ∀ k, row = some k → k = b) : Kp [b] w w' :=
  (Kp.refl [b] w).grown hg (fun k hk => .inl (by simp [hr k hk]))
end Go.Proofs.YtgmdcmkokdbeoaaDoor
