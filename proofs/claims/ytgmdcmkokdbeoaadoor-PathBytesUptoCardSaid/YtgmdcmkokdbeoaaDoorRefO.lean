/- The path of the reference: what GetPath comes to; what its rounds keep. -/
import Derived.Test.YtgmdcmkokdbeoaaDoorRefN
set_option linter.unusedVariables false
set_option linter.unusedSimpArgs false
namespace Go.Proofs.YtgmdcmkokdbeoaaDoor
open Go.RowKit

/-- What is left, and the error, behind all pairs. -/
def rdEndF : Nat → List UInt8 → Int → List UInt8 × Int
  | 0, xs, e => (xs, e)
  | n + 1, xs, e => if 0 < xs.length ∧ e = 0 then rdEndF n (itStep xs).2.1 (itStep xs).2.2 else (xs, e)
def rdEnd (xs : List UInt8) : List UInt8 × Int := rdEndF xs.length xs 0
def tOk (xs : List UInt8) : Bool := decide (endOf (rdEnd xs).1 (rdEnd xs).2 = 0)
/-- The steps that the reference reads, and whether all was well. -/
def stepsRF : Nat → List UInt8 → Bool → List StepD × Bool
  | 0, _, ok => ([], ok)
  | n + 1, xs, ok => if ok = true ∧ 0 < xs.length then
      (((itStep xs).1.1, pairs (itStep xs).1.2) :: (stepsRF n (itStep xs).2.1 (decide ((itStep xs).2.2 = 0) && tOk (itStep xs).1.2)).1, (stepsRF n (itStep xs).2.1 (decide ((itStep xs).2.2 = 0) && tOk (itStep xs).1.2)).2)
    else ([], ok)
def stepsR (xs : List UInt8) (ok : Bool) : List StepD × Bool := stepsRF xs.length xs ok

theorem pairsF_more (n : Nat) : ∀ (m : Nat) (xs : List UInt8) (e : Int), xs.length ≤ n → xs.length ≤ m → pairsF n xs e = pairsF m xs e := by
  induction n with
  | zero => intro m xs e h _; rw [pairsF_stop m xs e (by omega)]; rfl
  | succ n ih =>
    intro m xs e h hm
    rcases m with _ | m
    · rw [pairsF_stop (n + 1) xs e (by omega)]; rfl
    · simp only [pairsF]
      by_cases hc : 0 < xs.length ∧ e = 0
      · rw [if_pos hc, if_pos hc]
        congr 1
        by_cases h0 : (itStep xs).2.2 = 0
        · have := itStep_dec xs h0
          exact ih m _ _ (by omega) (by omega)
        · rw [pairsF_stop n _ _ (by simp [h0]), pairsF_stop m _ _ (by simp [h0])]
      · rw [if_neg hc, if_neg hc]
theorem rdEndF_stop (n : Nat) (xs : List UInt8) (e : Int) (h : ¬ (0 < xs.length ∧ e = 0)) : rdEndF n xs e = (xs, e) := by
  cases n with
  | zero => rfl
  | succ n => simp only [rdEndF]; rw [if_neg h]
theorem rdEndF_more (n : Nat) : ∀ (m : Nat) (xs : List UInt8) (e : Int), xs.length ≤ n → xs.length ≤ m → rdEndF n xs e = rdEndF m xs e := by
  induction n with
  | zero => intro m xs e h _; rw [rdEndF_stop m xs e (by omega)]; rfl
  | succ n ih =>
    intro m xs e h hm
    rcases m with _ | m
    · rw [rdEndF_stop (n + 1) xs e (by omega)]; rfl
    · simp only [rdEndF]
      by_cases hc : 0 < xs.length ∧ e = 0
      · rw [if_pos hc, if_pos hc]
        by_cases h0 : (itStep xs).2.2 = 0
        · have := itStep_dec xs h0
          exact ih m _ _ (by omega) (by omega)
        · rw [rdEndF_stop n _ _ (by simp [h0]), rdEndF_stop m _ _ (by simp [h0])]
      · rw [if_neg hc, if_neg hc]
theorem stepsRF_stop (n : Nat) (xs : List UInt8) (ok : Bool) (h : ¬ (ok = true ∧ 0 < xs.length)) : stepsRF n xs ok = ([], ok) := by
  cases n with
  | zero => rfl
  | succ n => simp only [stepsRF]; rw [if_neg h]
theorem stepsRF_more (n : Nat) : ∀ (m : Nat) (xs : List UInt8) (ok : Bool), xs.length ≤ n → xs.length ≤ m → stepsRF n xs ok = stepsRF m xs ok := by
  induction n with
  | zero => intro m xs e h _; rw [stepsRF_stop m xs e (by omega)]; rfl
  | succ n ih =>
    intro m xs ok h hm
    rcases m with _ | m
    · rw [stepsRF_stop (n + 1) xs ok (by omega)]; rfl
    · simp only [stepsRF]
      by_cases hc : ok = true ∧ 0 < xs.length
      · rw [if_pos hc, if_pos hc]
        by_cases h0 : (itStep xs).2.2 = 0
        · have := itStep_dec xs h0
          rw [ih m (itStep xs).2.1 (decide ((itStep xs).2.2 = 0) && tOk (itStep xs).1.2) (by omega) (by omega)]
        · rw [stepsRF_stop n _ _ (by simp [h0]), stepsRF_stop m _ _ (by simp [h0])]
      · rw [if_neg hc, if_neg hc]
theorem pairsF_step (xs : List UInt8) (h : 0 < xs.length) : pairsF xs.length xs 0 = (itStep xs).1 :: pairsF (itStep xs).2.1.length (itStep xs).2.1 (itStep xs).2.2 := by
  obtain ⟨n, hn⟩ : ∃ n, xs.length = n + 1 := ⟨xs.length - 1, by omega⟩
  rw [hn]
  simp only [pairsF]
  rw [if_pos ⟨h, trivial⟩]
  congr 1
  by_cases h0 : (itStep xs).2.2 = 0
  · have := itStep_dec xs h0
    exact pairsF_more _ _ _ _ (by omega) (Nat.le_refl _)
  · rw [pairsF_stop n _ _ (by simp [h0]), pairsF_stop _ _ _ (by simp [h0])]
theorem rdEndF_step (xs : List UInt8) (h : 0 < xs.length) : rdEndF xs.length xs 0 = rdEndF (itStep xs).2.1.length (itStep xs).2.1 (itStep xs).2.2 := by
  obtain ⟨n, hn⟩ : ∃ n, xs.length = n + 1 := ⟨xs.length - 1, by omega⟩
  rw [hn]
  simp only [rdEndF]
  rw [if_pos ⟨h, trivial⟩]
  by_cases h0 : (itStep xs).2.2 = 0
  · have := itStep_dec xs h0
    exact rdEndF_more _ _ _ _ (by omega) (Nat.le_refl _)
  · rw [rdEndF_stop n _ _ (by simp [h0]), rdEndF_stop _ _ _ (by simp [h0])]
theorem stepsR_step (xs : List UInt8) (h : 0 < xs.length) : stepsR xs true = (((itStep xs).1.1, pairs (itStep xs).1.2) :: (stepsR (itStep xs).2.1 (decide ((itStep xs).2.2 = 0) && tOk (itStep xs).1.2)).1, (stepsR (itStep xs).2.1 (decide ((itStep xs).2.2 = 0) && tOk (itStep xs).1.2)).2) := by
  obtain ⟨n, hn⟩ : ∃ n, xs.length = n + 1 := ⟨xs.length - 1, by omega⟩
  unfold stepsR
  rw [hn]
  simp only [stepsRF]
  rw [if_pos ⟨trivial, h⟩]
  by_cases h0 : (itStep xs).2.2 = 0
  · have := itStep_dec xs h0
    rw [stepsRF_more n (itStep xs).2.1.length _ _ (by omega) (Nat.le_refl _)]
  · rw [stepsRF_stop n _ _ (by simp [h0]), stepsRF_stop _ _ _ (by simp [h0])]
theorem stepsR_stop (xs : List UInt8) (ok : Bool) (h : ¬ (ok = true ∧ 0 < xs.length)) : stepsR xs ok = ([], ok) := stepsRF_stop _ _ _ h

/-- How much the reference's reader has yet to come. -/
def rqM (w : World) (r : Nat) : Nat :=
  match w.cell? ⟨r, 0, none⟩, w.cell? ⟨r, 1, none⟩ with
  | some (.slice _ n _), some (.int _ p) => n - p.toNat
  | _, _ => 0
theorem Rq.measure {w : World} {r : Nat} {xs : List UInt8} {e : Int} (h : Rq w r xs e) : rqM w r = xs.length := by
  obtain ⟨bs, pos, h, rfl⟩ := h
  obtain ⟨A, C, c0, c1, _⟩ := h.facts
  simp [rqM, c0, c1]
/-- The same with the error. -/
def rqE (w : World) (r : Nat) : Nat :=
  match w.cell? ⟨r, 2, none⟩ with
  | some (.int _ e) => if e = 0 then rqM w r + 1 else 0
  | _ => 0
theorem Rq.measureE {w : World} {r : Nat} {xs : List UInt8} {e : Int} (h : Rq w r xs e) : rqE w r = if e = 0 then xs.length + 1 else 0 := by
  simp [rqE, h.err, h.measure]
/-- It stays behind what touches other blocks, none of them of bytes. -/
theorem Rq.keep {S : List Nat} {w w' : World} {r : Nat} {xs : List UInt8} {e : Int} (h : Rq w r xs e) (k : Kp S w w') (hr : r ∉ S) (hS : ∀ b, b ∈ S → ∃ cs t f, w.heap[b]? = some (.cells cs t f) ∧ t ≠ 5) : Rq w' r xs e := by
  obtain ⟨bs, pos, ⟨p1, p2, A, C, hh, hb⟩, rfl⟩ := h
  refine ⟨bs, pos, ⟨p1, p2, A, C, k.obj hh hr, hb.keep k ?_⟩, rfl⟩
  intro b hb' hp hm
  obtain ⟨cs, f, h1⟩ := hb.2 hp b hb'
  obtain ⟨cs', t, f', h2, h3⟩ := hS b hm
  rw [h1] at h2
  cases h2
  exact h3 rfl
theorem pi_rsteps : PairInfo 25 51 := ⟨Tryd.underlying25, by kernel_rfl⟩
theorem pi_rseals : PairInfo 49 56 := ⟨Tryd.underlying49, by kernel_rfl⟩
/-- The types of what the reference builds. -/
def rbuiltT : List TypeId := [5, 56, 51, 27]
def rpathZ : Obj := .cells #[.slice none 0 0, .slice none 0 0, .slice none 0 0, .int .i64 0, .slice none 0 0, .slice none 0 0, .slice none 0 0] 27 (0, 0)

/-- Between two rounds of the outer loop. -/
structure RgJ (w : World) (b2 b7 rs : Nat) (A0 A1 A2 A3 A4 : Option Addr) (C0 C1 C2 C3 C4 : Nat) (l : LeafD) (ss : List StepD) (W : World) : Prop where
  kp : Kp [] w W
  h2 : W.heap[b2]? = some rpathZ
  h7 : ∃ A C, W.heap[b7]? = some (.cells (pathCells A0 A1 A2 A3 A4 A C0 C1 C2 C3 C4 C l ss.length) 27 (0, 0)) ∧ StepsO 56 51 w.heap.size W (.slice A ss.length C) ss
  o0 : Ob w.heap.size W (.slice A0 l.enc.length C0) l.enc
  o1 : Ob w.heap.size W (.slice A1 l.sig.length C1) l.sig
  o2 : Ob w.heap.size W (.slice A2 l.name.length C2) l.name
  o3 : Ob w.heap.size W (.slice A3 l.hash.length C3) l.hash
  o4 : Ob w.heap.size W (.slice A4 l.sgn.length C4) l.sgn
theorem RgJ.kt {w : World} {b2 b7 rs : Nat} {A0 A1 A2 A3 A4 : Option Addr} {C0 C1 C2 C3 C4 : Nat} {l : LeafD} {ss : List StepD} {W W' : World} (h : RgJ w b2 b7 rs A0 A1 A2 A3 A4 C0 C1 C2 C3 C4 l ss W)
    (kt : Kt rbuiltT W W') (kp : Kp [] w W') : RgJ w b2 b7 rs A0 A1 A2 A3 A4 C0 C1 C2 C3 C4 l ss W' := by
  obtain ⟨_, h2, ⟨A, C, h7, hs⟩, o0, o1, o2, o3, o4⟩ := h
  exact ⟨kp, kt _ _ _ _ h2 (by decide), ⟨A, C, kt _ _ _ _ h7 (by decide), hs.kt kt (by decide) (by decide) (by decide)⟩, o0.kt kt (by decide), o1.kt kt (by decide), o2.kt kt (by decide), o3.kt kt (by decide), o4.kt kt (by decide)⟩

/-- A step more. -/
theorem RgJ.add {w : World} {b2 b7 rs : Nat} {A0 A1 A2 A3 A4 : Option Addr} {C0 C1 C2 C3 C4 : Nat} {l : LeafD} {acc : List StepD} {W W2 W4 : World} (J : RgJ w b2 b7 rs A0 A1 A2 A3 A4 C0 C1 C2 C3 C4 l acc W)
    {A7 A9 Ak A : Option Addr} {C7 C9 Ck C : Nat} {key : List UInt8} {acc2 : List SealD} {qs : List (Value × Value)}
    (h7 : W.heap[b7]? = some (.cells (pathCells A0 A1 A2 A3 A4 A7 C0 C1 C2 C3 C4 C7 l acc.length) 27 (0, 0)))
    (hrow : W.ownsRow w.heap.size 51 2 (.slice A7 acc.length C7) acc.length (flat2 qs)) (hall : All2 (fun p s => Ob w.heap.size W p.1 s.1 ∧ SealsO 56 w.heap.size W p.2 s.2) qs acc)
    (ok : Ob w.heap.size W (.slice Ak key.length Ck) key) (hs : SealsO 56 w.heap.size W (.slice A acc2.length C) acc2)
    (hrow9 : W2.ownsRow w.heap.size 51 2 (.slice A9 (acc.length + 1) C9) (acc.length + 1) (flat2 qs ++ [.slice Ak key.length Ck, .slice A acc2.length C]))
    (hg : (W.alloc (.cells #[.slice Ak key.length Ck, .slice A acc2.length C] 51)).grownBy W2 (Value.slice A7 acc.length C7).ownBlock)
    (hne : b2 ≠ b7) (hb7 : w.heap.size ≤ b7) (k14 : Kp [] (W2.setCell ⟨b7, 6, none⟩ (.slice A9 (acc.length + 1) C9)) W4) :
    RgJ w b2 b7 rs A0 A1 A2 A3 A4 C0 C1 C2 C3 C4 l (acc ++ [(key, acc2)]) W4 := by
  have hrA : (W.alloc (.cells #[.slice Ak key.length Ck, .slice A acc2.length C] 51)).ownsRow w.heap.size 51 2 (.slice A7 acc.length C7) acc.length (flat2 qs) :=
    row_kt hrow (Kt.kp (Ts := [51]) ((Kp.refl [] W).alloc _)) (by decide)
  have ka : Kp [] W (W.alloc (.cells #[.slice Ak key.length Ck, .slice A acc2.length C] 51)) := (Kp.refl [] W).alloc _
  have kt1 : Kt [5, 56, 27] W W2 := (Kt.kp ka).trans (row_ktG hrA hg (by decide))
  have h72 := kt1 _ _ _ _ h7 (by decide)
  have kt2 : Kt [5, 56, 51] W2 W4 := (Kt.one ((Kp.refl [b7] W2).setCell ⟨b7, 6, none⟩ _ (by simp)) h72 (by decide)).trans (Kt.kp k14)
  have kp2 : Kp [] w W2 := (J.kp.alloc _).grown hg (fun b hb => .inr (row_block hrA hb).1)
  have oo : ∀ {v xs}, Ob w.heap.size W v xs → Ob w.heap.size W4 v xs := fun h => (h.kt kt1 (by decide)).kt kt2 (by decide)
  refine ⟨(kp2.setCell _ _ (.inr hb7)).trans k14, k14.obj (set_obj (kt1 _ _ _ _ J.h2 (by decide)) b7 6 _ hne) (by simp), ⟨A9, C9, ?_, ?_⟩, oo J.o0, oo J.o1, oo J.o2, oo J.o3, oo J.o4⟩
  · rw [List.length_append]
    exact k14.obj (heap_set h72 6 _) (by simp)
  · exact (StepsO.add (hall.imp fun _ _ ⟨a, b⟩ => ⟨a, b⟩) ok hs kt1 (by decide) (by decide) hrow9).kt kt2 (by decide) (by decide) (by decide)

/-- Between two rounds of the inner loop. -/
structure RgI (V : World) (rt bx : Nat) (Ak : Option Addr) (Ck : Nat) (key : List UInt8) (tv : List UInt8) (acc2 : List SealD) (ys : List UInt8) (e : Int) (A : Option Addr) (C : Nat) (W : World) : Prop where
  kp : Kp [rt, bx] V W
  hx : W.heap[bx]? = some (.cells #[.slice Ak key.length Ck, .slice A acc2.length C] 51 (0, 0))
  hs : SealsO 56 V.heap.size W (.slice A acc2.length C) acc2
  hq : Rq W rt ys e
  hp : pairs tv = acc2 ++ pairsF ys.length ys e
  he : rdEnd tv = rdEndF ys.length ys e
/-- A pair more: W behind Left, W5 behind two vectors, y's box bx2. -/
theorem RgI.add {V W W5 W7 : World} {rt bx : Nat} {Ak A A9 P1 P2 : Option Addr} {Ck C C9 D1 D2 : Nat} {key tv p1 p2 ys zs : List UInt8} {acc2 : List SealD} {f : Int} {qs : List (Value × Value)}
    (hkp : Kp [rt, bx] V W) (hx : W.heap[bx]? = some (.cells #[.slice Ak key.length Ck, .slice A acc2.length C] 51 (0, 0))) (hp : pairs tv = acc2 ++ pairsF ys.length ys 0) (he : rdEnd tv = rdEndF ys.length ys 0)
    (hst : itStep ys = ((p1, p2), zs, f)) (hpos : 0 < ys.length)
    (hrow : W.ownsRow V.heap.size 56 2 (.slice A acc2.length C) acc2.length (flat2 qs)) (hall : All2 (fun p s => Ob V.heap.size W p.1 s.1 ∧ Ob V.heap.size W p.2 s.2) qs acc2)
    (k5 : Kp [rt] W W5) (hrt : ∃ cs, W.heap[rt]? = some (.cells cs 76 (0, 0))) (o1 : Ob V.heap.size W5 (.slice P1 p1.length D1) p1) (o2 : Ob V.heap.size W5 (.slice P2 p2.length D2) p2) (q5 : Rq W5 rt zs f)
    (hrow9 : W7.ownsRow V.heap.size 56 2 (.slice A9 (acc2.length + 1) C9) (acc2.length + 1) (flat2 qs ++ [.slice P1 p1.length D1, .slice P2 p2.length D2]))
    (hg : (W5.alloc (.cells #[.slice P1 p1.length D1, .slice P2 p2.length D2] 56)).grownBy W7 (Value.slice A acc2.length C).ownBlock) (hne : bx ≠ rt) :
    RgI V rt bx Ak Ck key tv (acc2 ++ [(p1, p2)]) zs f A9 C9 (W7.setCell ⟨bx, 1, none⟩ (.slice A9 (acc2.length + 1) C9)) := by
  obtain ⟨csr, hcr⟩ := hrt
  have t5 : Kt [5, 56, 51] W W5 := Kt.one k5 hcr (by decide)
  have ka : Kp [] W5 (W5.alloc (.cells #[.slice P1 p1.length D1, .slice P2 p2.length D2] 56)) := (Kp.refl [] W5).alloc _
  have hrA := row_kt (row_kt hrow t5 (by decide)) (Kt.kp (Ts := [56]) ka) (by decide)
  have t7 : Kt [5, 51, 76] W5 W7 := (Kt.kp ka).trans (row_ktG hrA hg (by decide))
  have hx7 := t7 _ _ _ _ (t5 _ _ _ _ hx (by decide)) (by decide)
  have t8 : Kt [5, 56, 76] W7 (W7.setCell ⟨bx, 1, none⟩ (.slice A9 (acc2.length + 1) C9)) := Kt.one ((Kp.refl [bx] W7).setCell ⟨bx, 1, none⟩ _ (by simp)) hx7 (by decide)
  have kV : V.heap.size ≤ W.heap.size := hkp.size
  refine ⟨?_, ?_, ?_, (q5.kt t7 (by decide) (by decide)).kt t8 (by decide) (by decide), ?_, ?_⟩
  · refine (((hkp.trans (k5.weak (by intro k _ hk; simp at hk ⊢; exact .inl hk))).alloc _).grown hg (fun b hb => .inr (row_block hrA hb).1)).setCell _ _ (.inl (by simp))
  · rw [List.length_append]
    exact heap_set hx7 1 _
  · exact (SealsO.add (hall.imp fun _ _ ⟨a, b⟩ => ⟨(a.kt t5 (by decide)), (b.kt t5 (by decide))⟩) o1 o2 t7 (by decide) hrow9).kt t8 (by decide) (by decide)
  · rw [hp, pairsF_step ys hpos, hst]; simp
  · rw [he, rdEndF_step ys hpos, hst]
end Go.Proofs.YtgmdcmkokdbeoaaDoor
