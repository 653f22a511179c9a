/- Words that all texts of these proofs share: what a call keeps, byte slices that are read, rows of the call's own. -/
import Derived.Test.YtgmdcmkokdbeoaaDoorProg
import Derived.WalkKit
import Derived.WalkSpells
import Derived.WalkLawsBesides
import Derived.LoopN
import Derived.Lib.Hide
import Derived.Deep.QuietTactic
import Derived.BigQuiet
import Derived.Deep.LoopGhost
import Derived.Maps.AppendAt
import Derived.ScopeJumps
import Derived.WalkMore
namespace Go.Proofs.YtgmdcmkokdbeoaaDoor
open Go.RowKit

/-- What a call keeps: no block but those of S has turned. -/
structure Kp (S : List Nat) (w w' : World) : Prop where
  os : w'.os = w.os
  tape : w'.tape = w.tape
  output : w'.output = w.output
  size : w.heap.size ≤ w'.heap.size
  block : ∀ k, k < w.heap.size → k ∉ S → w'.heap[k]? = w.heap[k]?

theorem Kp.refl (S : List Nat) (w : World) : Kp S w w := ⟨rfl, rfl, rfl, Nat.le_refl _, fun _ _ _ => rfl⟩
theorem Kp.trans {S : List Nat} {a b c : World} (h : Kp S a b) (k : Kp S b c) : Kp S a c :=
  ⟨k.os.trans h.os, k.tape.trans h.tape, k.output.trans h.output, Nat.le_trans h.size k.size,
    fun i hi hS => (k.block i (Nat.lt_of_lt_of_le hi h.size) hS).trans (h.block i hi hS)⟩
theorem Kp.weak {S T : List Nat} {a b : World} (h : Kp S a b) (hs : ∀ k, k < a.heap.size → k ∈ S → k ∈ T) : Kp T a b :=
  ⟨h.os, h.tape, h.output, h.size, fun i hi hT => h.block i hi (fun hS => hT (hs i hi hS))⟩
theorem Kp.nil {S : List Nat} {a b : World} (h : Kp [] a b) : Kp S a b := h.weak (fun _ _ h => by cases h)
/-- Blocks that were not there at the beginning don't count. -/
theorem Kp.old {S T : List Nat} {a b c : World} (h : Kp S a b) (k : Kp T b c) (hs : ∀ x, x ∈ T → x ∈ S ∨ a.heap.size ≤ x) : Kp S a c :=
  ⟨k.os.trans h.os, k.tape.trans h.tape, k.output.trans h.output, Nat.le_trans h.size k.size,
    fun i hi hS => (k.block i (Nat.lt_of_lt_of_le hi h.size) (fun hT => (hs i hT).elim hS (by omega))).trans (h.block i hi hS)⟩
theorem Kp.alloc {S : List Nat} {a b : World} (h : Kp S a b) (o : Obj) : Kp S a (b.alloc o) :=
  h.trans ⟨rfl, rfl, rfl, by simp, fun k hk _ => Below.heap_alloc _ _ _ hk⟩
theorem Kp.drew {S : List Nat} {a b : World} (h : Kp S a b) : Kp S a b.drew := ⟨h.os, h.tape, h.output, h.size, h.block⟩
theorem Kp.drewN {S : List Nat} {a b : World} (h : Kp S a b) (n : Nat) : Kp S a (b.drewN n) := ⟨h.os, h.tape, h.output, h.size, h.block⟩
theorem Kp.setCell {S : List Nat} {a b : World} (h : Kp S a b) (p : Addr) (v : Value) (hp : p.block ∈ S ∨ a.heap.size ≤ p.block) : Kp S a (b.setCell p v) :=
  ⟨h.os, h.tape, h.output, by simpa [World.setCell] using h.size, fun k hk hS => by
    rw [Below.heap_setCell _ _ _ _ (by rintro rfl; exact hp.elim hS (by omega))]; exact h.block k hk hS⟩
theorem Kp.grown {S : List Nat} {a b c : World} {row : Option Nat} (h : Kp S a b) (hg : b.grownBy c row) (hr : ∀ k, row = some k → k ∈ S ∨ a.heap.size ≤ k) : Kp S a c :=
  ⟨hg.os.trans h.os, hg.tape.trans h.tape, hg.output.trans h.output, Nat.le_trans h.size hg.size, fun k hk hS =>
    (hg.block k (Nat.lt_of_lt_of_le hk h.size) (fun e => (hr k e.symm).elim hS (by omega))).trans (h.block k hk hS)⟩
theorem Kp.cell {S : List Nat} {a b : World} (h : Kp S a b) {p : Addr} (hb : p.block < a.heap.size) (hS : p.block ∉ S) : b.cell? p = a.cell? p :=
  World.cell?_of_block (w := a) (h.block _ hb hS)
theorem Kp.frozen {S : List Nat} {a b : World} (h : Kp S a b) {p : Addr} (hb : p.block < a.heap.size) (hS : p.block ∉ S) : b.frozen? p = a.frozen? p :=
  World.frozen?_of_block (w := a) (h.block _ hb hS)
theorem Kp.get {S : List Nat} {a b : World} (h : Kp S a b) {p : Addr} {v : Value} (hv : a.cell? p = some v) (hS : p.block ∉ S) : b.cell? p = some v :=
  (h.cell (World.block_lt_of_cell? a p hv) hS).trans hv
theorem Kp.below {a b : World} (h : Kp [] a b) : Below a.heap.size a b := ⟨h.os, h.tape, h.output, h.size, fun k hk => h.block k hk (by simp)⟩
theorem Kp.of_below {a b : World} (h : Below a.heap.size a b) : Kp [] a b := ⟨h.os, h.tape, h.output, h.size, fun k hk _ => h.block k hk⟩
theorem Kp.cells {a b : World} (h : Kp [] a b) : (∀ b' o, b' < a.heap.size → b.cell? ⟨b', o, none⟩ = a.cell? ⟨b', o, none⟩) ∧ (∀ b' o, b' < a.heap.size → b.frozen? ⟨b', o, none⟩ = a.frozen? ⟨b', o, none⟩) :=
  ⟨fun b' o hb => h.cell (p := ⟨b', o, none⟩) hb (by simp), fun b' o hb => h.frozen (p := ⟨b', o, none⟩) hb (by simp)⟩

theorem Kp.obj {S : List Nat} {a b : World} (h : Kp S a b) {k : Nat} {o : Obj} (hk : a.heap[k]? = some o) (hS : k ∉ S) : b.heap[k]? = some o :=
  (h.block k (Array.getElem?_eq_some_iff.1 hk).1 hS).trans hk
theorem alloc_obj {w : World} {k : Nat} {o : Obj} (hk : w.heap[k]? = some o) (o' : Obj) : (w.alloc o').heap[k]? = some o :=
  (Below.heap_alloc _ _ _ (Array.getElem?_eq_some_iff.1 hk).1).trans hk
theorem set_obj {w : World} {k : Nat} {o : Obj} (hk : w.heap[k]? = some o) (b i : Nat) (v : Value) (hb : k ≠ b) : (w.setCell ⟨b, i, none⟩ v).heap[k]? = some o :=
  (Below.heap_setCell _ _ _ _ (by simpa using hb)).trans hk

/-- A scope whose label is only jumped to ahead. -/
theorem wp_scope_ahead {P : Program} {a : Act} {w : World} {Q : Exit → Act → World → Prop} {c rest : Code} (l : Nat) (hf : findLabel c l = some rest)
    (first : c.wp P (Exit.jump l (fun a w => rest.wp P (Exit.noGoto Q) a w) Q) a w) : (Code.scope c).wp P Q a w :=
  wp_scope_jumps l (fun a w => rest.wp P (Exit.noGoto Q) a w) (fun _ _ => 0) hf first
    (fun a w hJ => wp_mono hJ (fun e a w h => by cases e <;> first | exact h | exact h.elim))
theorem jump_ret {a : Act} {w : World} {l : Nat} {J : Act → World → Prop} {Q : Exit → Act → World → Prop} : Exit.jump l J Q .ret a w = Q .ret a w := rfl

/-- A byte as a value. -/
def bv (b : UInt8) : Value := .int .u8 (b.toNat : Int)

/-- A slice of bytes that reads as a list. -/
def Bs (w : World) (v : Value) (xs : List UInt8) : Prop :=
  ∃ a c, v = .slice a xs.length c ∧ xs.length ≤ c ∧ c ≤ 9223372036854775807 ∧ (a = none → c = 0) ∧
    (0 < xs.length → ∃ g o, a = some ⟨g, o, none⟩ ∧ ∀ i, i < xs.length → w.cell? ⟨g, o + i, none⟩ = some (.int .u8 (((xs[i]?).getD 0).toNat : Int)))

theorem Bs.keep {S : List Nat} {w w' : World} {v : Value} {xs : List UInt8} (h : Bs w v xs) (k : Kp S w w') (hS : ∀ b, v.ownBlock = some b → 0 < xs.length → b ∉ S) : Bs w' v xs := by
  obtain ⟨a, c, rfl, h1, h2, h3, h4⟩ := h
  refine ⟨a, c, rfl, h1, h2, h3, fun hp => ?_⟩
  obtain ⟨g, o, rfl, hc⟩ := h4 hp
  exact ⟨g, o, rfl, fun i hi => k.get (hc i hi) (hS g (by simp [Value.ownBlock]) hp)⟩
theorem Bs.kp {w w' : World} {v : Value} {xs : List UInt8} (h : Bs w v xs) (k : Kp [] w w') : Bs w' v xs := h.keep k (by simp)
/-- Its block was there. -/
theorem Bs.lt {w : World} {v : Value} {xs : List UInt8} (h : Bs w v xs) (hp : 0 < xs.length) : ∀ b, v.ownBlock = some b → b < w.heap.size := by
  obtain ⟨a, c, rfl, h1, h2, h3, h4⟩ := h
  obtain ⟨g, o, rfl, hc⟩ := h4 hp
  intro b hb
  have := World.block_lt_of_cell? w _ (hc 0 hp)
  simp [Value.ownBlock] at hb
  subst hb
  exact this
theorem Bs.ne {w : World} {v : Value} {xs : List UInt8} (h : Bs w v xs) {r : Nat} {cs : Array Value} {t : TypeId} {f : Nat × Nat} (hr : w.heap[r]? = some (.cells cs t f))
    (hn : ∀ i : Nat, ∀ k : Int, cs[i]? ≠ some (.int .u8 k)) : ∀ b, v.ownBlock = some b → 0 < xs.length → b ∉ [r] := by
  obtain ⟨a, c, rfl, h1, h2, h3, h4⟩ := h
  intro b hb hp hm
  obtain ⟨g, o, rfl, hc⟩ := h4 hp
  simp [Value.ownBlock] at hb
  have hbr : b = r := by simpa using hm
  subst hb
  subst hbr
  have := hc 0 hp
  simp [World.cell?, hr] at this
  exact hn _ _ this
theorem Bs.nil (w : World) : Bs w (.slice none 0 0) [] := ⟨none, 0, rfl, by simp, by simp, fun _ => rfl, by simp⟩

/-- Where 's[l:]' begins, s of capacity m. -/
def lowA (a : Option Addr) (m l : Nat) : Option Addr := if m = l then a else a.map (·.add l)
theorem run_low {P : Program} (t : TypeId) (ht : P.underlying t = some (.slice (P.elem t))) (hs : ∀ w, (sizeOf (P.elem t)).run P w = .ok 1 w) (a : Option Addr) (len cap l : Nat) (h : l ≤ len) (w : World) :
    (Instr.slice t (.slice a len cap) (some (.int .i64 (l : Int))) none none).run P w = .ok (.slice (lowA a cap l) (len - l) (cap - l)) w := by
  rw [run_slice_l (ht := ht) (h0 := by omega) (h1 := by omega), hs]
  simp [Result.andThen, sliced, lowA]
theorem Bs.low {w : World} {a : Option Addr} {n c : Nat} {xs : List UInt8} (h : Bs w (.slice a n c) xs) (l : Nat) (hl : l ≤ xs.length) : Bs w (.slice (lowA a c l) (n - l) (c - l)) (xs.drop l) := by
  obtain ⟨a', c', he, h1, h2, h3, h4⟩ := h
  injection he with e1 e2 e3
  subst e1 e2 e3
  refine ⟨_, _, by rw [List.length_drop], by rw [List.length_drop]; omega, by omega, ?_, ?_⟩
  · intro hn
    unfold lowA at hn
    split at hn
    · omega
    · have : a = none := by simpa using hn
      have := h3 this
      omega
  · intro hp
    rw [List.length_drop] at hp
    obtain ⟨g, o, rfl, hc⟩ := h4 (by omega)
    refine ⟨g, o + l, ?_, fun i hi => ?_⟩
    · unfold lowA
      rw [if_neg (by omega)]
      simp only [Option.map_some, Addr.add]
      split <;> simp_all
    · rw [List.length_drop] at hi
      have := hc (l + i) (by omega)
      rw [show o + l + i = o + (l + i) by omega, this, List.getElem?_drop]

theorem Bs.high {w : World} {a : Option Addr} {n c : Nat} {xs : List UInt8} (h : Bs w (.slice a n c) xs) (l : Nat) (hl : l ≤ xs.length) : Bs w (.slice a l c) (xs.take l) := by
  obtain ⟨a', c', he, h1, h2, h3, h4⟩ := h
  injection he with e1 e2 e3
  subst e1 e2 e3
  have hm : (xs.take l).length = l := by rw [List.length_take]; omega
  refine ⟨a, c, by rw [hm], by omega, h2, h3, fun hp => ?_⟩
  obtain ⟨g, o, rfl, hc⟩ := h4 (by omega)
  refine ⟨g, o, rfl, fun i hi => ?_⟩
  rw [hc i (by omega), List.getElem?_take_of_lt (by omega)]
theorem lowA_blk {a : Option Addr} {m l : Nat} {n c n' c' : Nat} {b : Nat} (h : (Value.slice (lowA a m l) n c).ownBlock = some b) : (Value.slice a n' c').ownBlock = some b := by
  unfold lowA at h
  split at h
  · rcases a with _ | a
    · simp [Value.ownBlock] at h
    · exact h
  · rcases a with _ | a
    · simp [Value.ownBlock] at h
    · simp only [Option.map_some, Value.ownBlock, Addr.add] at h ⊢
      split at h <;> simpa using h
theorem lowA_block {g o m l : Nat} {n c n' c' : Nat} {b : Nat} (h : (Value.slice (lowA (some ⟨g, o, none⟩) m l) n c).ownBlock = some b) : (Value.slice (some ⟨g, o, none⟩) n' c').ownBlock = some b := by
  unfold lowA at h
  split at h
  · exact h
  · simp only [Option.map_some, Value.ownBlock, Addr.add] at h ⊢
    split at h <;> simpa using h

/-- A row of bytes of the call's own, from block base on. -/
def Ob (base : Nat) (w : World) (v : Value) (xs : List UInt8) : Prop := w.ownsRow base 5 1 v xs.length (xs.map bv)

theorem Ob.bs {base : Nat} {w : World} {v : Value} {xs : List UInt8} (h : Ob base w v xs) : Bs w v xs := by
  rcases h.2 with ⟨rfl, h0⟩ | ⟨g, cap, cur, rfl, hb, hh, h1, h2, h3, h4⟩
  · have : xs = [] := List.eq_nil_of_length_eq_zero h0
    subst this; exact Bs.nil w
  · refine ⟨_, cap, rfl, h1, by simpa [maxLen] using h2, by simp, fun hp => ⟨g, 0, rfl, fun i hi => ?_⟩⟩
    have := h.cells (g := g) (by simp [Value.ownBlock]) i (bv xs[i]) (by simp [hi])
    have ha : (⟨g, 0, none⟩ : Addr).add i = ⟨g, 0 + i, none⟩ := by unfold Addr.add; split <;> simp_all
    rw [ha] at this
    rw [this]
    simp [bv, hi]
/-- The same, in a block of bytes. -/
def Bt (w : World) (v : Value) (xs : List UInt8) : Prop := Bs w v xs ∧ (0 < xs.length → ∀ b, v.ownBlock = some b → ∃ cs f, w.heap[b]? = some (.cells cs 5 f))
theorem Bt.keep {S : List Nat} {w w' : World} {v : Value} {xs : List UInt8} (h : Bt w v xs) (k : Kp S w w') (hS : ∀ b, v.ownBlock = some b → 0 < xs.length → b ∉ S) : Bt w' v xs :=
  ⟨h.1.keep k hS, fun hp b hb => by
    obtain ⟨cs, f, hh⟩ := h.2 hp b hb
    exact ⟨cs, f, k.obj hh (hS b hb hp)⟩⟩
theorem Bt.kp {w w' : World} {v : Value} {xs : List UInt8} (h : Bt w v xs) (k : Kp [] w w') : Bt w' v xs := h.keep k (by simp)
theorem Bt.ne {w : World} {v : Value} {xs : List UInt8} (h : Bt w v xs) {r : Nat} {cs : Array Value} {t : TypeId} {f : Nat × Nat} (hr : w.heap[r]? = some (.cells cs t f))
    (hn : ∀ i : Nat, ∀ k : Int, cs[i]? ≠ some (.int .u8 k)) : ∀ b, v.ownBlock = some b → 0 < xs.length → b ∉ [r] := h.1.ne hr hn
theorem Bt.nil (w : World) : Bt w (.slice none 0 0) [] := ⟨Bs.nil w, by simp⟩
theorem Bt.low {w : World} {a : Option Addr} {n c : Nat} {xs : List UInt8} (h : Bt w (.slice a n c) xs) (l : Nat) (hl : l ≤ xs.length) : Bt w (.slice (lowA a c l) (n - l) (c - l)) (xs.drop l) :=
  ⟨h.1.low l hl, fun hp b hb => h.2 (by rw [List.length_drop] at hp; omega) b (lowA_blk hb)⟩
theorem Ob.bt {base : Nat} {w : World} {v : Value} {xs : List UInt8} (h : Ob base w v xs) : Bt w v xs := ⟨h.bs, fun _ b hb => by
  rcases h.2 with ⟨rfl, h0⟩ | ⟨g, cap, cur, rfl, _, hh, _⟩
  · simp [Value.ownBlock] at hb
  · simp [Value.ownBlock] at hb
    subst hb
    exact ⟨_, _, hh⟩⟩
theorem Ob.kp {base : Nat} {w w' : World} {S : List Nat} {v : Value} {xs : List UInt8} (h : Ob base w v xs) (k : Kp S w w') (hS : ∀ b, v.ownBlock = some b → b ∉ S) : Ob base w' v xs := by
  refine ⟨h.1, ?_⟩
  rcases h.2 with hn | ⟨g, cap, cur, rfl, hb, hg, rest⟩
  · exact .inl hn
  · exact .inr ⟨g, cap, cur, rfl, hb, by rw [k.block g (Array.getElem?_eq_some_iff.1 hg).1 (hS g (by simp [Value.ownBlock]))]; exact hg, rest⟩
theorem Ob.lt {base : Nat} {w : World} {v : Value} {xs : List UInt8} (h : Ob base w v xs) : ∀ b, v.ownBlock = some b → base ≤ b ∧ b < w.heap.size := World.ownsRow.lt h
theorem Ob.mono {base base' : Nat} {w : World} {v : Value} {xs : List UInt8} (h : Ob base w v xs) (hb : base' ≤ base) : Ob base' w v xs := by
  refine ⟨h.1, ?_⟩
  rcases h.2 with hn | ⟨g, cap, cur, rfl, hb', rest⟩
  · exact .inl hn
  · exact .inr ⟨g, cap, cur, rfl, by omega, rest⟩
theorem Ob.shape {base : Nat} {w : World} {v : Value} {xs : List UInt8} (h : Ob base w v xs) : ∃ A C, v = .slice A xs.length C := by
  rcases h.2 with ⟨rfl, h0⟩ | ⟨g, cap, cur, rfl, _⟩
  · exact ⟨none, 0, by rw [h0]⟩
  · exact ⟨_, cap, rfl⟩
theorem Ob.nil (base : Nat) (w : World) : Ob base w (.slice none 0 0) [] := ⟨rfl, .inl ⟨rfl, rfl⟩⟩

theorem grown_cell {w w' : World} {row : Option Nat} (hg : w.grownBy w' row) (b o : Nat) {v : Value} (hv : w.cell? ⟨b, o, none⟩ = some v) (hne : row ≠ some b) : w'.cell? ⟨b, o, none⟩ = some v :=
  hg.cell hv (fun h => hne h.symm)
theorem grown_free {w w' : World} {row : Option Nat} (hg : w.grownBy w' row) (b o : Nat) (hlt : b < w.heap.size) (hne : row ≠ some b) (hv : w.frozen? ⟨b, o, none⟩ = false) : w'.frozen? ⟨b, o, none⟩ = false :=
  (World.frozen?_of_block (a := ⟨b, o, none⟩) (hg.block b hlt (fun h => hne h.symm))).trans hv
theorem ret_int {k : IntKind} {a b : Int} (h : a = b) : Ending.returned (.int k a) = .returned (.int k b) := by rw [h]

end Go.Proofs.YtgmdcmkokdbeoaaDoor
