/- The arguments, opened. -/
import Derived.Test.YtgmdcmkokdbeoaaDoorLawG
import Derived.Test.YtgmdcmkokdbeoaaDoorBulk
import Derived.ProofKit
import Derived.OpenShut
import Derived.ChangeArms
import Derived.Deep.SlicePairs
set_option linter.unusedVariables false
set_option linter.unusedSimpArgs false
namespace Go.Proofs.YtgmdcmkokdbeoaaDoor
open Go.RowKit Go.ChangeShapes Go.WideShapes Go.ChangeAt

section
variable {H : Type} {enc : TypeId × Value → H} {W : World} {base : Nat} {sp : Nat → Bool} {held : Bool}
theorem cells_u8 : Tryd.prog.cellsOf 5 = 1 := by kernel_rfl
theorem cells_bytes : Tryd.prog.cellsOf 22 = 1 := by kernel_rfl
theorem cells_i64 : Tryd.prog.cellsOf 3 = 1 := by kernel_rfl
theorem cells_seal : Tryd.prog.cellsOf 56 = 2 := by kernel_rfl
theorem cells_seals : Tryd.prog.cellsOf 49 = 1 := by kernel_rfl
theorem cells_step : Tryd.prog.cellsOf 51 = 2 := by kernel_rfl
theorem cells_steps : Tryd.prog.cellsOf 25 = 1 := by kernel_rfl
theorem cells_leaf : Tryd.prog.cellsOf 24 = 6 := by kernel_rfl
theorem cells_path : Tryd.prog.cellsOf 27 = 7 := by kernel_rfl

/-- A slice of bytes that came in. -/
theorem trod_bytes {fuel : Nat} {v : Value} {x : DataW H × List MemPlace} (h : DataW.trod enc Tryd.prog W base sp held fuel 22 [v] = some x) : ∃ xs : List UInt8, Bs W v xs ∧ xs.length + 1 ≤ Rows.uptoBulk x.1 := by
  rcases open_ints Tryd.underlying22 Tryd.underlying5 cells_u8 h with ⟨hcs, hx⟩ | ⟨a, len, cap, zs, hcs, hb, hl, hm, hz, hx, hcell, hwf⟩
  · simp only [List.cons.injEq, and_true] at hcs
    subst hcs hx
    exact ⟨[], Bs.nil W, by simp [Rows.uptoBulk]⟩
  · simp only [List.cons.injEq, and_true] at hcs
    subst hcs hx
    have hle : len ≤ zs.length := by rw [hz]; split <;> omega
    refine ⟨(zs.take len).map (fun n => UInt8.ofNat n.toNat), ?_, ?_⟩
    · have hlen : ((zs.take len).map (fun n => UInt8.ofNat n.toNat)).length = len := by rw [List.length_map, List.length_take]; omega
      unfold maxLen at hm
      refine ⟨some a, cap, by rw [hlen], by omega, hm, by simp, fun hp => ?_⟩
      rw [hlen] at hp
      obtain ⟨g, o, spot⟩ := a
      have hs : spot = none := by simpa [Addr.add] using World.cell?_spot (hcell 0 (by omega))
      subst hs
      refine ⟨g, o, rfl, fun i hi => ?_⟩
      rw [hlen] at hi
      have hc := hcell i (by omega)
      have ha : (⟨g, o, none⟩ : Addr).add i = ⟨g, o + i, none⟩ := by unfold Addr.add; split <;> simp_all
      rw [ha] at hc
      rw [hc]
      have hw := hwf (zs.getD i 0) (by rw [List.getD_eq_getElem?_getD, List.getElem?_eq_getElem (by omega)]; exact List.getElem_mem _)
      have hw' : 0 ≤ zs.getD i 0 ∧ zs.getD i 0 ≤ 255 := by simpa [Lit.wf, IntKind.min, IntKind.max, IntKind.signed, IntKind.bits] using hw
      rw [List.getElem?_map, List.getElem?_take_of_lt hi, List.getElem?_eq_getElem (by omega)]
      rw [List.getD_eq_getElem?_getD, List.getElem?_eq_getElem (by omega)] at hw' ⊢
      simp only [Option.getD_some, Option.map_some] at hw' ⊢
      congr 2
      simp
      omega
    · have := bulks.slice_le (H := H) (lits .u8 (zs.take len)) (lits .u8 (zs.drop len))
      simp only [lits, List.length_map, List.length_take] at this ⊢
      omega

/-- A slice of sealed secrets that came in. -/
theorem trod_seals {fuel : Nat} {v : Value} {x : DataW H × List MemPlace} (h : DataW.trod enc Tryd.prog W base sp held fuel 49 [v] = some x) :
    ∃ ss : List SealD, SealsV W v ss ∧ ss.length + 1 ≤ Rows.uptoBulk x.1 ∧ ∀ y ∈ ss, y.1.length ≤ Rows.uptoBulk x.1 ∧ y.2.length ≤ Rows.uptoBulk x.1 := by
  rcases Deep.open_slice_pairs Tryd.underlying49 Tryd.underlying56 cells_seal rfl rfl cells_bytes cells_bytes h with ⟨hcs, hx⟩ | ⟨a, len, cap, m, n, V0, V1, D0, D1, P0, P1, hcs, hb, hl, hm, hmm, hx, hall⟩
  · simp only [List.cons.injEq, and_true] at hcs
    subst hcs hx
    exact ⟨[], ⟨[], ⟨none, 0, rfl, rfl, by simp, by simp, fun _ => rfl, by simp⟩, .nil⟩, by simp [Rows.uptoBulk], by simp⟩
  · simp only [List.cons.injEq, and_true] at hcs
    subst hcs hx
    have hle : len ≤ m := by rw [hmm]; split <;> omega
    unfold maxLen at hm
    have h0 : ∀ i, i < m → ∃ y : SealD, Bs W (V0 i) y.1 ∧ Bs W (V1 i) y.2 ∧ y.1.length ≤ Rows.uptoBulk (D0 i) ∧ y.2.length ≤ Rows.uptoBulk (D1 i) := fun i hi => by
      obtain ⟨_, _, h3, h4⟩ := hall i hi
      obtain ⟨x1, b1, c1⟩ := trod_bytes h3
      obtain ⟨x2, b2, c2⟩ := trod_bytes h4
      exact ⟨(x1, x2), b1, b2, by simp only at *; omega, by simp only at *; omega⟩
    obtain ⟨Y, hY⟩ := Deep.choose_lt h0
    have hbulk : ∀ i, i < len → Rows.uptoBulk (D0 i) ≤ Rows.uptoBulk (DataW.slice ((List.range len).map fun i => DataW.agg [D0 i, D1 i]) ((List.range (m - len)).map fun j => DataW.agg [D0 (len + j), D1 (len + j)])) ∧ Rows.uptoBulk (D1 i) ≤ Rows.uptoBulk (DataW.slice ((List.range len).map fun i => DataW.agg [D0 i, D1 i]) ((List.range (m - len)).map fun j => DataW.agg [D0 (len + j), D1 (len + j)])) := fun i hi => by
      have h1 := bulks.part_le (H := H) (d := DataW.agg [D0 i, D1 i]) (l := (List.range len).map fun i => DataW.agg [D0 i, D1 i]) (List.mem_map.2 ⟨i, List.mem_range.2 hi, rfl⟩)
      have h2 := bulks.slice_elems (H := H) ((List.range len).map fun i => DataW.agg [D0 i, D1 i]) ((List.range (m - len)).map fun j => DataW.agg [D0 (len + j), D1 (len + j)])
      simp only [Rows.uptoBulk, Rows.uptoBulkAll] at h1 h2 ⊢
      omega
    refine ⟨(List.range len).map Y, ⟨(List.range len).map (fun i => (V0 i, V1 i)), ?_, ?_⟩, ?_, ?_⟩
    · refine ⟨some a, cap, by simp, by rw [flat2_len]; simp, by simpa using hl, hm, by simp, fun hp => ?_⟩
      have hp' : 0 < len := by simpa using hp
      obtain ⟨g, o, spot⟩ := a
      have hs : spot = none := by simpa [Addr.add] using World.cell?_spot (hall 0 (by omega)).1
      subst hs
      refine ⟨g, o, rfl, fun j u hj => ?_⟩
      have hadd : ∀ i, (⟨g, o, none⟩ : Addr).add i = ⟨g, o + i, none⟩ := fun i => by unfold Addr.add; split <;> simp_all
      have hjl : j < ((List.range len).map (fun i => (V0 i, V1 i))).length * 2 := by
        have := (List.getElem?_eq_some_iff.1 hj).1
        rwa [flat2_len] at this
      simp only [List.length_map, List.length_range] at hjl
      have hg := flat2_get (ps := (List.range len).map (fun i => (V0 i, V1 i))) (i := j / 2) (p := (V0 (j / 2), V1 (j / 2))) (by rw [List.getElem?_map, List.getElem?_range (by omega)]; rfl)
      obtain ⟨c1, c2, _, _⟩ := hall (j / 2) (by omega)
      rw [hadd] at c1 c2
      rcases Nat.mod_two_eq_zero_or_one j with hz | hz
      · have e : j / 2 * 2 = j := by omega
        rw [e] at hg c1
        rw [hg.1] at hj
        cases hj
        exact c1
      · have e : j / 2 * 2 + 1 = j := by omega
        rw [e] at hg c2
        rw [hg.2] at hj
        cases hj
        exact c2
    · have : ∀ k, k ≤ m → All2 (fun p s => Bs W p.1 s.1 ∧ Bs W p.2 s.2) ((List.range k).map (fun i => (V0 i, V1 i))) ((List.range k).map Y) := by
        intro k
        induction k with
        | zero => intro _; exact .nil
        | succ k ih =>
          intro hk
          rw [List.range_succ, List.map_append, List.map_append]
          exact (ih (by omega)).snoc ⟨(hY k (by omega)).1, (hY k (by omega)).2.1⟩
      exact this len hle
    · have := bulks.slice_le (H := H) ((List.range len).map fun i => DataW.agg [D0 i, D1 i]) ((List.range (m - len)).map fun j => DataW.agg [D0 (len + j), D1 (len + j)])
      simp only [List.length_map, List.length_range] at this ⊢
      omega
    · intro y hy
      obtain ⟨i, hi, rfl⟩ := List.mem_map.1 hy
      have hi' := List.mem_range.1 hi
      obtain ⟨_, _, c1, c2⟩ := hY i (by omega)
      obtain ⟨d1, d2⟩ := hbulk i hi'
      exact ⟨Nat.le_trans c1 d1, Nat.le_trans c2 d2⟩
/-- A slice of steps that came in. -/
theorem trod_steps {fuel : Nat} {v : Value} {x : DataW H × List MemPlace} (h : DataW.trod enc Tryd.prog W base sp held fuel 25 [v] = some x) :
    ∃ ss : List StepD, StepsV W v ss ∧ ss.length + 1 ≤ Rows.uptoBulk x.1 ∧ ∀ y ∈ ss, y.1.length ≤ Rows.uptoBulk x.1 ∧ y.2.length ≤ Rows.uptoBulk x.1 ∧ ∀ z ∈ y.2, z.1.length ≤ Rows.uptoBulk x.1 ∧ z.2.length ≤ Rows.uptoBulk x.1 := by
  rcases Deep.open_slice_pairs Tryd.underlying25 Tryd.underlying51 cells_step rfl rfl cells_bytes cells_seals h with ⟨hcs, hx⟩ | ⟨a, len, cap, m, n, V0, V1, D0, D1, P0, P1, hcs, hb, hl, hm, hmm, hx, hall⟩
  · simp only [List.cons.injEq, and_true] at hcs
    subst hcs hx
    exact ⟨[], ⟨[], ⟨none, 0, rfl, rfl, by simp, by simp, fun _ => rfl, by simp⟩, .nil⟩, by simp [Rows.uptoBulk], by simp⟩
  · simp only [List.cons.injEq, and_true] at hcs
    subst hcs hx
    have hle : len ≤ m := by rw [hmm]; split <;> omega
    unfold maxLen at hm
    have h0 : ∀ i, i < m → ∃ y : StepD, Bs W (V0 i) y.1 ∧ SealsV W (V1 i) y.2 ∧ y.1.length ≤ Rows.uptoBulk (D0 i) ∧ y.2.length ≤ Rows.uptoBulk (D1 i) ∧ ∀ z ∈ y.2, z.1.length ≤ Rows.uptoBulk (D1 i) ∧ z.2.length ≤ Rows.uptoBulk (D1 i) := fun i hi => by
      obtain ⟨_, _, h3, h4⟩ := hall i hi
      obtain ⟨x1, b1, c1⟩ := trod_bytes h3
      obtain ⟨x2, b2, c2, c3⟩ := trod_seals h4
      exact ⟨(x1, x2), b1, b2, by simp only at *; omega, by simp only at *; omega, c3⟩
    obtain ⟨Y, hY⟩ := Deep.choose_lt h0
    have hbulk : ∀ i, i < len → Rows.uptoBulk (D0 i) ≤ Rows.uptoBulk (DataW.slice ((List.range len).map fun i => DataW.agg [D0 i, D1 i]) ((List.range (m - len)).map fun j => DataW.agg [D0 (len + j), D1 (len + j)])) ∧ Rows.uptoBulk (D1 i) ≤ Rows.uptoBulk (DataW.slice ((List.range len).map fun i => DataW.agg [D0 i, D1 i]) ((List.range (m - len)).map fun j => DataW.agg [D0 (len + j), D1 (len + j)])) := fun i hi => by
      have h1 := bulks.part_le (H := H) (d := DataW.agg [D0 i, D1 i]) (l := (List.range len).map fun i => DataW.agg [D0 i, D1 i]) (List.mem_map.2 ⟨i, List.mem_range.2 hi, rfl⟩)
      have h2 := bulks.slice_elems (H := H) ((List.range len).map fun i => DataW.agg [D0 i, D1 i]) ((List.range (m - len)).map fun j => DataW.agg [D0 (len + j), D1 (len + j)])
      simp only [Rows.uptoBulk, Rows.uptoBulkAll] at h1 h2 ⊢
      omega
    refine ⟨(List.range len).map Y, ⟨(List.range len).map (fun i => (V0 i, V1 i)), ?_, ?_⟩, ?_, ?_⟩
    · refine ⟨some a, cap, by simp, by rw [flat2_len]; simp, by simpa using hl, hm, by simp, fun hp => ?_⟩
      have hp' : 0 < len := by simpa using hp
      obtain ⟨g, o, spot⟩ := a
      have hs : spot = none := by simpa [Addr.add] using World.cell?_spot (hall 0 (by omega)).1
      subst hs
      refine ⟨g, o, rfl, fun j u hj => ?_⟩
      have hadd : ∀ i, (⟨g, o, none⟩ : Addr).add i = ⟨g, o + i, none⟩ := fun i => by unfold Addr.add; split <;> simp_all
      have hjl : j < ((List.range len).map (fun i => (V0 i, V1 i))).length * 2 := by
        have := (List.getElem?_eq_some_iff.1 hj).1
        rwa [flat2_len] at this
      simp only [List.length_map, List.length_range] at hjl
      have hg := flat2_get (ps := (List.range len).map (fun i => (V0 i, V1 i))) (i := j / 2) (p := (V0 (j / 2), V1 (j / 2))) (by rw [List.getElem?_map, List.getElem?_range (by omega)]; rfl)
      obtain ⟨c1, c2, _, _⟩ := hall (j / 2) (by omega)
      rw [hadd] at c1 c2
      rcases Nat.mod_two_eq_zero_or_one j with hz | hz
      · have e : j / 2 * 2 = j := by omega
        rw [e] at hg c1
        rw [hg.1] at hj
        cases hj
        exact c1
      · have e : j / 2 * 2 + 1 = j := by omega
        rw [e] at hg c2
        rw [hg.2] at hj
        cases hj
        exact c2
    · have : ∀ k, k ≤ m → All2 (fun p s => Bs W p.1 s.1 ∧ SealsV W p.2 s.2) ((List.range k).map (fun i => (V0 i, V1 i))) ((List.range k).map Y) := by
        intro k
        induction k with
        | zero => intro _; exact .nil
        | succ k ih =>
          intro hk
          rw [List.range_succ, List.map_append, List.map_append]
          exact (ih (by omega)).snoc ⟨(hY k (by omega)).1, (hY k (by omega)).2.1⟩
      exact this len hle
    · have := bulks.slice_le (H := H) ((List.range len).map fun i => DataW.agg [D0 i, D1 i]) ((List.range (m - len)).map fun j => DataW.agg [D0 (len + j), D1 (len + j)])
      simp only [List.length_map, List.length_range] at this ⊢
      omega
    · intro y hy
      obtain ⟨i, hi, rfl⟩ := List.mem_map.1 hy
      have hi' := List.mem_range.1 hi
      obtain ⟨_, _, c1, c2, c3⟩ := hY i (by omega)
      obtain ⟨d1, d2⟩ := hbulk i hi'
      exact ⟨Nat.le_trans c1 d1, Nat.le_trans c2 d2, fun z hz => ⟨Nat.le_trans (c3 z hz).1 d2, Nat.le_trans (c3 z hz).2 d2⟩⟩

theorem trod_num {fuel : Nat} {v : Value} {x : DataW H × List MemPlace} (h : DataW.trod enc Tryd.prog W base sp held fuel 3 [v] = some x) : ∃ n : Int, v = .int .i64 n := by
  obtain ⟨n, h1, _, _⟩ := DataW.trod_int Tryd.underlying3 h
  simp only [List.cons.injEq, and_true] at h1
  exact ⟨n, h1⟩
theorem list7 {α : Type} {l : List α} (h : l.length = 7) : ∃ a b c d e f g, l = [a, b, c, d, e, f, g] := by
  match l, h with
  | [a, b, c, d, e, f, g], _ => exact ⟨a, b, c, d, e, f, g, rfl⟩
theorem list2 {α : Type} {l : List α} (h : l.length = 2) : ∃ a b, l = [a, b] := by
  match l, h with
  | [a, b], _ => exact ⟨a, b, rfl⟩
theorem list6 {α : Type} {l : List α} (h : l.length = 6) : ∃ a b c d e f, l = [a, b, c, d, e, f] := by
  match l, h with
  | [a, b, c, d, e, f], _ => exact ⟨a, b, c, d, e, f, rfl⟩
theorem agg_of {v : Value} {a b c d e f g : Value} (h : v.cells.toList = [a, b, c, d, e, f, g]) : v = .agg #[a, b, c, d, e, f, g] := by
  cases v with
  | agg cs =>
    have : cs = #[a, b, c, d, e, f, g] := by
      apply Array.toList_inj.1
      simpa [Value.cells] using h
    rw [this]
  | _ => simp [Value.cells] at h
set_option maxRecDepth 100000 in
/-- A path that came in. -/
theorem trod_path {v : Value} {d : DataW H} {ps : List MemPlace} (h : DataW.Trod enc Tryd.prog W base sp held 27 v d ps) :
    ∃ A0 A1 A2 A3 A4 A5 C0 C1 C2 C3 C4 C5 l ss, v = .agg #[.slice A0 l.enc.length C0, .slice A1 l.sig.length C1, .slice A2 l.name.length C2, .int .i64 l.src, .slice A3 l.hash.length C3, .slice A4 l.sgn.length C4, .slice A5 ss.length C5] ∧
      PathV W v l ss ∧ (Rows.uptoBulk d ≤ 2097152 → PathSmall l ss) := by
  obtain ⟨fuel, h⟩ := h
  obtain ⟨xs, n, _, hx, hl, hxl, hf⟩ := DataW.trod_struct Tryd.underlying27 h
  rw [cells_path] at hl
  obtain ⟨c0, c1, c2, c3, c4, c5, c6, hc⟩ := list7 hl
  have hv := agg_of hc
  rw [hc] at hf
  obtain ⟨x0, x1, rfl⟩ := list2 hxl
  have f0 := hf 0 _ rfl
  have f1 := hf 1 _ rfl
  simp only [cells_leaf, cells_steps, List.drop_zero, List.take_succ_cons, List.take_zero, List.drop_succ_cons, List.getElem?_cons_zero, List.getElem?_cons_succ] at f0 f1
  obtain ⟨ys, n2, _, hy, _, hyl, hg⟩ := DataW.trod_struct Tryd.underlying24 f0
  obtain ⟨y0, y1, y2, y3, y4, y5, rfl⟩ := list6 hyl
  have g0 := hg 0 _ rfl
  have g1 := hg 1 _ rfl
  have g2 := hg 2 _ rfl
  have g3 := hg 3 _ rfl
  have g4 := hg 4 _ rfl
  have g5 := hg 5 _ rfl
  simp only [cells_bytes, cells_i64, List.drop_zero, List.take_succ_cons, List.take_zero, List.drop_succ_cons, List.getElem?_cons_zero, List.getElem?_cons_succ] at g0 g1 g2 g3 g4 g5
  obtain ⟨enc', b0, m0⟩ := trod_bytes g0
  obtain ⟨sig', b1, m1⟩ := trod_bytes g1
  obtain ⟨nam', b2, m2⟩ := trod_bytes g2
  obtain ⟨src', e3⟩ := trod_num g3
  obtain ⟨has', b4, m4⟩ := trod_bytes g4
  obtain ⟨sgn', b5, m5⟩ := trod_bytes g5
  obtain ⟨ss, b6, m6, m7⟩ := trod_steps f1
  have q0 := b0
  have q1 := b1
  have q2 := b2
  have q4 := b4
  have q5 := b5
  obtain ⟨A0, C0, rfl, -⟩ := b0
  obtain ⟨A1, C1, rfl, -⟩ := b1
  obtain ⟨A2, C2, rfl, -⟩ := b2
  obtain ⟨A4, C4, rfl, -⟩ := b4
  obtain ⟨A5, C5, rfl, -⟩ := b5
  obtain ⟨A6, C6, e6, -⟩ := b6.facts
  subst e3 e6
  refine ⟨A0, A1, A2, A4, A5, A6, C0, C1, C2, C4, C5, C6, ⟨enc', sig', nam', src', has', sgn'⟩, ss, hv, ?_, ?_⟩
  · rw [hv]
    exact ⟨A0, A1, A2, A4, A5, A6, C0, C1, C2, C4, C5, C6, rfl, ⟨A0, A1, A2, A4, A5, C0, C1, C2, C4, C5, rfl, q0, q1, q2, q4, q5⟩, b6⟩
  · intro hle
    have hd : d = .agg [x0.1, x1.1] := by have := congrArg Prod.fst hx; simpa using this
    have hd0 : x0.1 = .agg [y0.1, y1.1, y2.1, y3.1, y4.1, y5.1] := by have := congrArg Prod.fst hy; simpa using this
    rw [hd] at hle
    simp only [Rows.uptoBulk, Rows.uptoBulkAll, hd0] at hle
    refine ⟨⟨by simp only; omega, by simp only; omega, by simp only; omega, by simp only; omega, by simp only; omega⟩, by omega, fun y hy => ?_⟩
    obtain ⟨a1, a2, a3⟩ := m7 y hy
    refine ⟨by omega, by omega, fun z hz => ?_⟩
    obtain ⟨a4, a5⟩ := a3 z hz
    exact ⟨by omega, by omega⟩
end
end Go.Proofs.YtgmdcmkokdbeoaaDoor
