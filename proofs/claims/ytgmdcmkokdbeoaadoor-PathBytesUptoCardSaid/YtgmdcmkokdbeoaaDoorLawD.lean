/- A path is copied. -/
import Derived.Test.YtgmdcmkokdbeoaaDoorLawC
import Derived.Test.YtgmdcmkokdbeoaaDoorReg
set_option linter.unusedVariables false
set_option linter.unusedSimpArgs false
namespace Go.Proofs.YtgmdcmkokdbeoaaDoor
open Go.RowKit

/-- No part of a path is great. -/
structure PathSmall (l : LeafD) (ss : List StepD) : Prop where
  leaf : l.enc.length ≤ 2097152 ∧ l.sig.length ≤ 2097152 ∧ l.name.length ≤ 2097152 ∧ l.hash.length ≤ 2097152 ∧ l.sgn.length ≤ 2097152
  steps : ss.length ≤ 2097152
  step : ∀ x ∈ ss, x.1.length ≤ 2097152 ∧ x.2.length ≤ 2097152 ∧ ∀ y ∈ x.2, y.1.length ≤ 2097152 ∧ y.2.length ≤ 2097152

set_option maxRecDepth 100000 in
set_option maxHeartbeats 8000000 in
theorem lawPath_any {w : World} {v : Value} {l : LeafD} {ss : List StepD} (h : PathV w v l ss) (hm : PathSmall l ss) :
    Calls Tryd.prog 5 #[v] w fun e w' => ∃ u, e = .returned u ∧ PathO w.heap.size w' u l ss ∧ Kp [] w w' := by
  obtain ⟨sA0, sA1, sA2, sA3, sA4, sa, sC0, sC1, sC2, sC3, sC4, sc, rfl, hleaf, hsteps⟩ := h
  have K0 := Lib.hid (((Kp.refl [] w).alloc (.cells #[.slice sA0 l.enc.length sC0, .slice sA1 l.sig.length sC1, .slice sA2 l.name.length sC2, .int .i64 l.src, .slice sA3 l.hash.length sC3, .slice sA4 l.sgn.length sC4, .slice sa ss.length sc] 27)).alloc (.cells #[.slice none 0 0, .slice none 0 0, .slice none 0 0, .int .i64 0, .slice none 0 0, .slice none 0 0, .slice none 0 0] 32))
  have HB1 := Lib.hid (alloc2_get w (.cells #[.slice sA0 l.enc.length sC0, .slice sA1 l.sig.length sC1, .slice sA2 l.name.length sC2, .int .i64 l.src, .slice sA3 l.hash.length sC3, .slice sA4 l.sgn.length sC4, .slice sa ss.length sc] 27) (.cells #[.slice none 0 0, .slice none 0 0, .slice none 0 0, .int .i64 0, .slice none 0 0, .slice none 0 0, .slice none 0 0] 32))
  have HZ1 := Lib.hid (alloc2_last w (.cells #[.slice sA0 l.enc.length sC0, .slice sA1 l.sig.length sC1, .slice sA2 l.name.length sC2, .int .i64 l.src, .slice sA3 l.hash.length sC3, .slice sA4 l.sgn.length sC4, .slice sa ss.length sc] 27) (.cells #[.slice none 0 0, .slice none 0 0, .slice none 0 0, .int .i64 0, .slice none 0 0, .slice none 0 0, .slice none 0 0] 32))
  have hL := lawLeaf_any (hleaf.kp K0.out) hm.leaf
  obtain ⟨_, _, q1, sn, sm, sc⟩ := hsteps.facts
  injection q1 with q1a q1b q1c
  subst q1a q1c
  have SC := Lib.hid sc
  have HM := Lib.hid hm
  have HSL := Lib.hid hm.steps
  clear hleaf hsteps q1b sc hm
  go_enter Tryd.func5, Tryd.ntmps5
  go_wp2_with fail
  refine hL.mono ?_
  rintro en w1 ⟨u, rfl, ⟨A0, A1, A2, A3, A4, C0, C1, C2, C3, C4, rfl, o0, o1, o2, o3, o4⟩, k1⟩
  have KP := Lib.hid ((Kp.refl [] w1).alloc (.cells (pathCells A0 A1 A2 A3 A4 none C0 C1 C2 C3 C4 0 l 0) 32))
  have z1 := k1.size
  simp only [World.size_alloc] at z1 o0 o1 o2 o3 o4
  have HJ0 := Lib.hid (show LpJ w (w.heap.size + 1) w1.heap.size A0 A1 A2 A3 A4 C0 C1 C2 C3 C4 l [] (w1.alloc (.cells (pathCells A0 A1 A2 A3 A4 none C0 C1 C2 C3 C4 0 l 0) 32)) from
    ⟨(K0.out.trans k1).alloc _, alloc_obj (k1.obj HZ1.out (by simp)) _, ⟨none, 0, heap_alloc_new w1 _, StepsO.nil _ _ _ _⟩, (o0.mono (by omega)).kp KP.out (by simp), (o1.mono (by omega)).kp KP.out (by simp), (o2.mono (by omega)).kp KP.out (by simp), (o3.mono (by omega)).kp KP.out (by simp), (o4.mono (by omega)).kp KP.out (by simp)⟩)
  have HBX0 := Lib.hid (show (w1.alloc (.cells (pathCells A0 A1 A2 A3 A4 none C0 C1 C2 C3 C4 0 l 0) 32)).heap[w.heap.size]? = some (.cells #[.slice sA0 l.enc.length sC0, .slice sA1 l.sig.length sC1, .slice sA2 l.name.length sC2, .int .i64 l.src, .slice sA3 l.hash.length sC3, .slice sA4 l.sgn.length sC4, .slice sa ss.length sc] 27 (0, 0)) from alloc_obj (k1.obj HB1.out (by simp)) _)
  have hz1 := Lib.hid (show w.heap.size + 2 ≤ w1.heap.size by omega)
  clear z1 o0 o1 o2 o3 o4 k1
  go_wp2_with fail
  go_loopw [4] (fun i wr => ∃ k : Nat, k ≤ ss.length ∧ i = .int .i64 k ∧ Hid (LpJ w (w.heap.size + 1) w1.heap.size A0 A1 A2 A3 A4 C0 C1 C2 C3 C4 l (ss.take k) wr) ∧ Hid (wr.heap[w.heap.size]? = some (.cells #[.slice sA0 l.enc.length sC0, .slice sA1 l.sig.length sC1, .slice sA2 l.name.length sC2, .int .i64 l.src, .slice sA3 l.hash.length sC3, .slice sA4 l.sgn.length sC4, .slice sa ss.length sc] 27 (0, 0)))) (fun i _ => ss.length - (intOf i).toNat)
  case atStart => exact ⟨0, Nat.zero_le _, rfl, HJ0, HBX0⟩
  case round =>
    obtain ⟨k, hk, rfl, HJ, HBX⟩ := hrel
    obtain ⟨W0, rfl⟩ : ∃ W0, W0 = wr := ⟨_, rfl⟩
    have s6 : W0.cell? ⟨w.heap.size, 6, none⟩ = some (.slice sa ss.length sc) := heap_cell HBX.out 6
    by_cases hlt : k < ss.length
    · obtain ⟨g, o, rfl, hc⟩ := SC.out (by omega)
      obtain ⟨x, hx⟩ := get_lt hlt
      obtain ⟨B1, D1, B2, D2, d1, d2, b1, b2⟩ := hc k x hx
      have KK := Lib.hid HJ.out.kp
      have e1 := KK.out.get d1 (by simp)
      have e2 := KK.out.get d2 (by simp)
      obtain ⟨mk, mt, ms⟩ := HM.out.step x (List.mem_of_getElem? hx)
      have MK := Lib.hid mk
      have MT := Lib.hid mt
      have MS := Lib.hid ms
      obtain ⟨_, _, q1, tn, tm, tc⟩ := b2.facts
      injection q1 with q1a q1b q1c
      subst q1a q1c
      have TC := Lib.hid tc
      have HX := Lib.hid hx
      have HD1 := Lib.hid d1
      have HD2 := Lib.hid d2
      have BK := Lib.hid (b1.kp (KK.out.alloc (.cells #[] 5)))
      have HTK := Lib.hid (show ss.take (k + 1) = ss.take k ++ [(x.1, x.2)] by rw [List.take_add_one, hx]; simp)
      have HO := Lib.hid (Ob.lit (base := W0.heap.size) (w := W0) (Nat.le_refl _) #[] 0 [] rfl rfl (by omega))
      have hbd := build_empty_bytes
      have lb1 : w.heap.size < W0.heap.size := World.block_lt_of_cell? W0 _ s6
      have lb2 : g < W0.heap.size := World.block_lt_of_cell? W0 _ e1
      have ln1 : w.heap.size ≠ W0.heap.size := Nat.ne_of_lt lb1
      have ln2 : g ≠ W0.heap.size := Nat.ne_of_lt lb2
      clear hc b1 b2 q1b tc hx d1 d2 mk mt ms
      go_wp2_with (at_builtin; refine app_b rfl (.tmp 18) (.tmp 24) rfl W0.heap.size HO.out BK.out rfl rfl (by have := MK.out; simp; omega) (by simp) ?_; intro vk w2 ok hg2 _; simp only [List.nil_append] at ok; have OKk := Lib.hid ok; have K2 := Lib.hid (((Kp.refl [] W0).alloc (.cells #[] 5)).grown hg2 (fun q hq => .inr (by simp [Value.ownBlock] at hq; omega))); obtain ⟨Ak, Ck, rfl⟩ := ok.shape; clear ok hg2)
      have KV0 := Lib.hid (K2.out.alloc (.cells #[.slice Ak x.1.length Ck, .slice none 0 0] 54))
      have HX0 := Lib.hid (heap_alloc_new w2 (.cells #[.slice Ak x.1.length Ck, .slice none 0 0] 54))
      go_loopw [6] (fun i2 wq => ∃ j : Nat, j ≤ x.2.length ∧ i2 = .int .i64 j ∧ ∃ A C, Hid (Kp [w2.heap.size] (w2.alloc (.cells #[.slice Ak x.1.length Ck, .slice none 0 0] 54)) wq) ∧ Hid (wq.heap[w2.heap.size]? = some (.cells #[.slice Ak x.1.length Ck, .slice A (x.2.take j).length C] 54 (0, 0))) ∧ Hid (SealsO 57 (w2.alloc (.cells #[.slice Ak x.1.length Ck, .slice none 0 0] 54)).heap.size wq (.slice A (x.2.take j).length C) (x.2.take j))) (fun i2 _ => x.2.length - (intOf i2).toNat)
      case atStart => exact ⟨0, Nat.zero_le _, rfl, none, 0, Lib.hid (Kp.refl _ _), HX0, Lib.hid (SealsO.nil _ _ _)⟩
      case round =>
        obtain ⟨j, hj, rfl, A, C, HK, HXX, HSO⟩ := hrel
        obtain ⟨W1, rfl⟩ : ∃ W1, W1 = wr := ⟨_, rfl⟩
        have KA := Lib.hid ((Kp.refl [] W0).old (KV0.out.nil.trans HK.out) (by intro q hq; simp at hq; subst hq; exact .inr K2.out.size))
        have s6' := KA.out.get s6 (by simp)
        have e1' := KA.out.get e1 (by simp)
        have e2' := KA.out.get e2 (by simp)
        have x0 : W1.cell? ⟨w2.heap.size, 0, none⟩ = some (.slice Ak x.1.length Ck) := heap_cell HXX.out 0
        have x1 : W1.cell? ⟨w2.heap.size, 1, none⟩ = some (.slice A (x.2.take j).length C) := heap_cell HXX.out 1
        by_cases hjt : j < x.2.length
        · obtain ⟨g2, o2, rfl, hc2⟩ := TC.out (by omega)
          obtain ⟨y, hy⟩ := get_lt hjt
          obtain ⟨E1, F1, E2, F2, f1, f2, c1, c2⟩ := hc2 j y hy
          have KV := Lib.hid (KK.out.trans KV0.out)
          have g1' := (KK.out.trans KA.out).get f1 (by simp)
          have g3' := (KK.out.trans KA.out).get f2 (by simp)
          have sz0 := K2.out.size
          have lg2 : g2 < w.heap.size := World.block_lt_of_cell? w _ f1
          have lg1 : g < w.heap.size := World.block_lt_of_cell? w _ HD1.out
          have lw := KK.out.size
          have nn1 : w.heap.size ≠ w2.heap.size := by omega
          have nn2 : g ≠ w2.heap.size := by omega
          have nn3 : g2 ≠ w2.heap.size := by omega
          have nn1' : w2.heap.size ≠ w.heap.size := by omega
          have nn2' : w2.heap.size ≠ g := by omega
          have nn3' : w2.heap.size ≠ g2 := by omega
          have V6 := Lib.hid (KV0.out.get s6 (by simp))
          have V2 := Lib.hid (KV0.out.get e2 (by simp))
          have VG1 := Lib.hid (KV.out.get f1 (by simp))
          have VG3 := Lib.hid (KV.out.get f2 (by simp))
          obtain ⟨my1, my2⟩ := MS.out y (List.mem_of_getElem? hy)
          have HT2 := Lib.hid (show x.2.take (j + 1) = x.2.take j ++ [(y.1, y.2)] by rw [List.take_add_one, hy]; simp)
          have CE1 := Lib.hid (fun (W' : World) (k : Kp [] W1 W') => c1.kp ((KK.out.trans KA.out).trans k))
          have CE2 := Lib.hid (fun (W' : World) (k : Kp [] W1 W') => c2.kp ((KK.out.trans KA.out).trans k))
          have SZ := Lib.hid (show (w2.alloc (.cells #[.slice Ak x.1.length Ck, .slice none 0 0] 54)).heap.size ≤ W1.heap.size from HK.out.size)
          have HL1 := Lib.hid (show y.1.length ≤ 70368744177664 by omega)
          have HL2 := Lib.hid (show y.2.length ≤ 70368744177664 by omega)
          have HJL := Lib.hid (show j ≤ 1099511627776 by have := MT.out; omega)
          obtain ⟨qs, hrow, hall⟩ := HSO.out
          have hlj : (x.2.take j).length = j := by rw [List.length_take]; omega
          have HLJ := Lib.hid hlj
          have hlj' := hlj
          have hrow' := hrow
          rw [hlj] at hrow'
          have HRW := Lib.hid hrow
          have HRWj := Lib.hid hrow'
          have HAL := Lib.hid hall
          have i1 : (0 : Int) ≤ (k : Int) := by omega
          have i2 : (k : Int) < (ss.length : Int) := by omega
          have i3 : (0 : Int) ≤ (j : Int) := by omega
          have i4 : (j : Int) < (x.2.length : Int) := by omega
          have fz5 := heap_free HXX.out 1
          have lw1 : w2.heap.size < W1.heap.size := World.block_lt_of_cell? W1 _ x1
          have nw : w2.heap.size ≠ W1.heap.size := Nat.ne_of_lt lw1
          have nw1 : w2.heap.size ≠ W1.heap.size + 1 := by omega
          have nw2 : w2.heap.size < W1.heap.size + 1 := by omega
          have hd1 : (W1.alloc (.cells #[] 5)).cell? ⟨w2.heap.size, 1, none⟩ = some (.slice A (x.2.take j).length C) := (World.cell?_alloc_lt _ _ _ lw1).trans x1
          have hd2 : ((W1.alloc (.cells #[] 5)).alloc (.cells #[] 5)).cell? ⟨w2.heap.size, 1, none⟩ = some (.slice A (x.2.take j).length C) := (World.cell?_alloc_lt _ _ _ (by simp; omega)).trans hd1
          rw [hlj'] at hd1 hd2
          clear hc2 f1 f2 c1 c2 hrow hrow' hall my1 my2 hy hlj hlj'
          generalize HVS : (w2.alloc (.cells #[.slice Ak x.1.length Ck, .slice none 0 0] 54)).heap.size = VS at *
          go_wp2
          have x1j := x1.trans (by rw [HLJ.out] : _ = some (Value.slice A j C))
          refine wp_region_R (last := 30) (S := (fun w' => w'.cell? ⟨w.heap.size, 6, none⟩ = some (.slice (some ⟨g, o, none⟩) ss.length sc) ∧ w'.cell? ⟨g, o + k * 2 + 1, none⟩ = some (.slice (some ⟨g2, o2, none⟩) x.2.length D2) ∧ w'.cell? ⟨g2, o2 + j * 2, none⟩ = some (.slice E1 y.1.length F1) ∧ w'.cell? ⟨g2, o2 + j * 2 + 1, none⟩ = some (.slice E2 y.2.length F2) ∧ w'.cell? ⟨w2.heap.size, 1, none⟩ = some (.slice A j C))) (by kernel_rfl) (by (try dsimp only); go_keep) (fun hHeld => ?_)
          refine wpAnyR_take (i := 0) (v := ?v1) rfl (by kernel_rfl) (by kernel_rfl) (by kernel_rfl) (by kernel_rfl) (fun _ _ _ h => h) (Or.inl ⟨by rfl, ?y1⟩) (by assumption) ?r1
          case y1 => (intro w hSw; (try dsimp only at hSw); go_simp) <;> with_reducible rfl
          (try simp only [Act.put, List.getElem_toArray, List.getElem_cons_succ, List.getElem_cons_zero, List.setIfInBounds_toArray, List.set_cons_zero, List.set_cons_succ])
          refine wpAnyR_take (i := 1) (v := ?v2) rfl (by kernel_rfl) (by kernel_rfl) (by kernel_rfl) (by kernel_rfl) (fun _ _ _ h => h) (Or.inl ⟨by rfl, ?y2⟩) (by assumption) ?r2
          case y2 => (intro w hSw; (try dsimp only at hSw); go_simp) <;> with_reducible rfl
          (try simp only [Act.put, List.getElem_toArray, List.getElem_cons_succ, List.getElem_cons_zero, List.setIfInBounds_toArray, List.set_cons_zero, List.set_cons_succ])
          refine wpAnyR_take (i := 3) (v := ?v3) rfl (by kernel_rfl) (by kernel_rfl) (by kernel_rfl) (by kernel_rfl) (fun _ _ _ h => h) (Or.inl ⟨by rfl, ?y3⟩) (by assumption) ?r3
          case y3 => (intro w hSw; (try dsimp only at hSw); go_simp) <;> with_reducible rfl
          (try simp only [Act.put, List.getElem_toArray, List.getElem_cons_succ, List.getElem_cons_zero, List.setIfInBounds_toArray, List.set_cons_zero, List.set_cons_succ])
          refine wpAnyR_take (i := 4) (v := ?v4) rfl (by kernel_rfl) (by kernel_rfl) (by kernel_rfl) (by kernel_rfl) (fun _ _ _ h => h) (Or.inl ⟨by rfl, ?y4⟩) (by assumption) ?r4
          case y4 => (intro w hSw; (try dsimp only at hSw); go_simp) <;> with_reducible rfl
          (try simp only [Act.put, List.getElem_toArray, List.getElem_cons_succ, List.getElem_cons_zero, List.setIfInBounds_toArray, List.set_cons_zero, List.set_cons_succ])
          refine wpAnyR_take (i := 5) (v := ?v5) rfl (by kernel_rfl) (by kernel_rfl) (by kernel_rfl) (by kernel_rfl) (fun _ _ _ h => h) (Or.inl ⟨by rfl, ?y5⟩) (by assumption) ?r5
          case y5 => (intro w hSw; (try dsimp only at hSw); go_simp) <;> with_reducible rfl
          (try simp only [Act.put, List.getElem_toArray, List.getElem_cons_succ, List.getElem_cons_zero, List.setIfInBounds_toArray, List.set_cons_zero, List.set_cons_succ])
          refine wpAnyR_take (i := 6) (v := ?v6) rfl (by kernel_rfl) (by kernel_rfl) (by kernel_rfl) (by kernel_rfl) (fun _ _ _ h => h) (Or.inl ⟨by rfl, ?y6⟩) (by assumption) ?r6
          case y6 => (intro w hSw; (try dsimp only at hSw); go_simp) <;> with_reducible rfl
          (try simp only [Act.put, List.getElem_toArray, List.getElem_cons_succ, List.getElem_cons_zero, List.setIfInBounds_toArray, List.set_cons_zero, List.set_cons_succ])
          refine wpAnyR_take (i := 7) (v := ?v7) rfl (by kernel_rfl) (by kernel_rfl) (by kernel_rfl) (by kernel_rfl) (fun _ _ _ h => h) (Or.inl ⟨by rfl, ?y7⟩) (by assumption) ?r7
          case y7 => (intro w hSw; (try dsimp only at hSw); go_simp) <;> with_reducible rfl
          (try simp only [Act.put, List.getElem_toArray, List.getElem_cons_succ, List.getElem_cons_zero, List.setIfInBounds_toArray, List.set_cons_zero, List.set_cons_succ])
          refine wpAnyR_take (i := 8) (v := ?v8) rfl (by kernel_rfl) (by kernel_rfl) (by kernel_rfl) (by kernel_rfl) (fun _ _ _ h => h) (Or.inl ⟨by rfl, ?y8⟩) (by assumption) ?r8
          case y8 => (intro w hSw; (try dsimp only at hSw); go_simp) <;> with_reducible rfl
          (try simp only [Act.put, List.getElem_toArray, List.getElem_cons_succ, List.getElem_cons_zero, List.setIfInBounds_toArray, List.set_cons_zero, List.set_cons_succ])
          refine wpAnyR_take (i := 9) (v := ?v9) rfl (by kernel_rfl) (by kernel_rfl) (by kernel_rfl) (by kernel_rfl) (fun _ _ _ h => h) (Or.inl ⟨by rfl, ?y9⟩) (by assumption) ?r9
          case y9 => (intro w hSw; (try dsimp only at hSw); go_simp) <;> with_reducible rfl
          (try simp only [Act.put, List.getElem_toArray, List.getElem_cons_succ, List.getElem_cons_zero, List.setIfInBounds_toArray, List.set_cons_zero, List.set_cons_succ])
          refine wpAnyR_take (i := 10) (v := ?v10) rfl (by kernel_rfl) (by kernel_rfl) (by kernel_rfl) (by kernel_rfl) (fun _ _ _ h => h) (Or.inl ⟨by rfl, ?y10⟩) (by assumption) ?r10
          case y10 => (intro w hSw; (try dsimp only at hSw); go_simp) <;> with_reducible rfl
          (try simp only [Act.put, List.getElem_toArray, List.getElem_cons_succ, List.getElem_cons_zero, List.setIfInBounds_toArray, List.set_cons_zero, List.set_cons_succ])
          refine wpAnyR_take (i := 11) (v := ?v11) rfl (by kernel_rfl) (by kernel_rfl) (by kernel_rfl) (by kernel_rfl) (fun _ _ _ h => h) (Or.inl ⟨by rfl, ?y11⟩) (by assumption) ?r11
          case y11 => (intro w hSw; (try dsimp only at hSw); go_simp) <;> with_reducible rfl
          (try simp only [Act.put, List.getElem_toArray, List.getElem_cons_succ, List.getElem_cons_zero, List.setIfInBounds_toArray, List.set_cons_zero, List.set_cons_succ])
          refine wpAnyR_take (i := 12) (v := ?v12) rfl (by kernel_rfl) (by kernel_rfl) (by kernel_rfl) (by kernel_rfl) (fun _ _ _ h => h) (Or.inl ⟨by rfl, ?y12⟩) (by assumption) ?r12
          case y12 => (intro w hSw; (try dsimp only at hSw); go_simp) <;> with_reducible rfl
          (try simp only [Act.put, List.getElem_toArray, List.getElem_cons_succ, List.getElem_cons_zero, List.setIfInBounds_toArray, List.set_cons_zero, List.set_cons_succ])
          refine wpAnyR_take (i := 15) (v := ?v13) rfl (by kernel_rfl) (by kernel_rfl) (by kernel_rfl) (by kernel_rfl) (fun _ _ _ h => h) (Or.inl ⟨by rfl, ?y13⟩) (by assumption) ?r13
          case y13 => (intro w hSw; (try dsimp only at hSw); go_simp) <;> with_reducible rfl
          (try simp only [Act.put, List.getElem_toArray, List.getElem_cons_succ, List.getElem_cons_zero, List.setIfInBounds_toArray, List.set_cons_zero, List.set_cons_succ])
          refine wpAnyR_take (i := 16) (v := ?v14) rfl (by kernel_rfl) (by kernel_rfl) (by kernel_rfl) (by kernel_rfl) (fun _ _ _ h => h) (Or.inl ⟨by rfl, ?y14⟩) (by assumption) ?r14
          case y14 => (intro w hSw; (try dsimp only at hSw); go_simp) <;> with_reducible rfl
          (try simp only [Act.put, List.getElem_toArray, List.getElem_cons_succ, List.getElem_cons_zero, List.setIfInBounds_toArray, List.set_cons_zero, List.set_cons_succ])
          refine wpAnyR_take (i := 17) (v := ?v15) rfl (by kernel_rfl) (by kernel_rfl) (by kernel_rfl) (by kernel_rfl) (fun _ _ _ h => h) (Or.inl ⟨by rfl, ?y15⟩) (by assumption) ?r15
          case y15 => (intro w hSw; (try dsimp only at hSw); go_simp) <;> with_reducible rfl
          (try simp only [Act.put, List.getElem_toArray, List.getElem_cons_succ, List.getElem_cons_zero, List.setIfInBounds_toArray, List.set_cons_zero, List.set_cons_succ])
          refine wpAnyR_take (i := 18) (v := ?v16) rfl (by kernel_rfl) (by kernel_rfl) (by kernel_rfl) (by kernel_rfl) (fun _ _ _ h => h) (Or.inl ⟨by rfl, ?y16⟩) (by assumption) ?r16
          case y16 => (intro w hSw; (try dsimp only at hSw); go_simp) <;> with_reducible rfl
          (try simp only [Act.put, List.getElem_toArray, List.getElem_cons_succ, List.getElem_cons_zero, List.setIfInBounds_toArray, List.set_cons_zero, List.set_cons_succ])
          refine wpAnyR_take (i := 19) (v := ?v17) rfl (by kernel_rfl) (by kernel_rfl) (by kernel_rfl) (by kernel_rfl) (fun _ _ _ h => h) (Or.inl ⟨by rfl, ?y17⟩) (by assumption) ?r17
          case y17 => (intro w hSw; (try dsimp only at hSw); go_simp) <;> with_reducible rfl
          (try simp only [Act.put, List.getElem_toArray, List.getElem_cons_succ, List.getElem_cons_zero, List.setIfInBounds_toArray, List.set_cons_zero, List.set_cons_succ])
          refine wpAnyR_take (i := 20) (v := ?v18) rfl (by kernel_rfl) (by kernel_rfl) (by kernel_rfl) (by kernel_rfl) (fun _ _ _ h => h) (Or.inl ⟨by rfl, ?y18⟩) (by assumption) ?r18
          case y18 => (intro w hSw; (try dsimp only at hSw); go_simp) <;> with_reducible rfl
          (try simp only [Act.put, List.getElem_toArray, List.getElem_cons_succ, List.getElem_cons_zero, List.setIfInBounds_toArray, List.set_cons_zero, List.set_cons_succ])
          refine wpAnyR_take (i := 21) (v := ?v19) rfl (by kernel_rfl) (by kernel_rfl) (by kernel_rfl) (by kernel_rfl) (fun _ _ _ h => h) (Or.inl ⟨by rfl, ?y19⟩) (by assumption) ?r19
          case y19 => (intro w hSw; (try dsimp only at hSw); go_simp) <;> with_reducible rfl
          (try simp only [Act.put, List.getElem_toArray, List.getElem_cons_succ, List.getElem_cons_zero, List.setIfInBounds_toArray, List.set_cons_zero, List.set_cons_succ])
          refine wpAnyR_take (i := 22) (v := ?v20) rfl (by kernel_rfl) (by kernel_rfl) (by kernel_rfl) (by kernel_rfl) (fun _ _ _ h => h) (Or.inl ⟨by rfl, ?y20⟩) (by assumption) ?r20
          case y20 => (intro w hSw; (try dsimp only at hSw); go_simp) <;> with_reducible rfl
          (try simp only [Act.put, List.getElem_toArray, List.getElem_cons_succ, List.getElem_cons_zero, List.setIfInBounds_toArray, List.set_cons_zero, List.set_cons_succ])
          refine wpAnyR_take (i := 23) (v := ?v21) rfl (by kernel_rfl) (by kernel_rfl) (by kernel_rfl) (by kernel_rfl) (fun _ _ _ h => h) (Or.inl ⟨by rfl, ?y21⟩) (by assumption) ?r21
          case y21 => (intro w hSw; (try dsimp only at hSw); go_simp) <;> with_reducible rfl
          (try simp only [Act.put, List.getElem_toArray, List.getElem_cons_succ, List.getElem_cons_zero, List.setIfInBounds_toArray, List.set_cons_zero, List.set_cons_succ])
          refine wpAnyR_take (i := 24) (v := ?v22) rfl (by kernel_rfl) (by kernel_rfl) (by kernel_rfl) (by kernel_rfl) (fun _ _ _ h => h) (Or.inl ⟨by rfl, ?y22⟩) (by assumption) ?r22
          case y22 => (intro w hSw; (try dsimp only at hSw); go_simp) <;> with_reducible rfl
          (try simp only [Act.put, List.getElem_toArray, List.getElem_cons_succ, List.getElem_cons_zero, List.setIfInBounds_toArray, List.set_cons_zero, List.set_cons_succ])
          refine wpAnyR_ready (rs := [2, 14]) (by kernel_rfl) (by simp) ?_
          refine AllReadyR.cons rfl (fun K hK => ?s23) ?m23
          case s23 =>
            skip
            go_simp
            refine hK.out _ _ ?_ (fun hHeld => ?_)
            · (try dsimp only)
              (first | with_reducible exact ⟨c60, c61, c62, c63, c5⟩ | with_reducible exact ⟨b60, b61, b62, b63, b5j⟩ | with_reducible exact ⟨a60, a61, a62, a63, a5j⟩ | go_keep)
            clear hK K
            refine wpAnyR_ready (rs := [13, 14]) (by kernel_rfl) (by simp) ?_
            refine AllReadyR.cons rfl (fun K hK => ?s25) ?m25
            case s25 =>
              skip
              (first | (refine step_app_f (W1 := W1) (by rfl) (.tmp 40) (.tmp 50) (by rfl) (by rfl) (by rfl) VS y.1 ?_ ?_ ?_ ?_ (CE1.out _ ?_) HL1.out ?_; (focus (repeat (first | exact Kp.refl _ _ | apply Kp.drew | apply Kp.alloc))); (focus (first | exact heap_alloc_new W1 _ | exact alloc2_get W1 _ _ | exact alloc2_last W1 _ _)); (focus (first | exact SZ.out | exact Nat.le_succ_of_le SZ.out)); (focus (first | exact Nat.le_refl _ | exact Nat.le_succ _)); (focus (repeat (first | exact Kp.refl _ _ | apply Kp.drew | apply Kp.alloc))); intro P1 Q1 wA oA kA kkA hA; have a60 := kkA.get s6' (by simp); have a61 := kkA.get e2' (by simp); have a62 := kkA.get g1' (by simp); have a63 := kkA.get g3' (by simp); have a5 := kkA.get x1 (by simp); have a5j := a5.trans (by rw [HLJ.out] : _ = some (Value.slice A j C)); have na : w2.heap.size ≠ wA.heap.size := Nat.ne_of_lt (World.block_lt_of_cell? wA _ a5); have hdA : (wA.alloc (.cells #[] 5)).cell? ⟨w2.heap.size, 1, none⟩ = some (.slice A j C) := ((World.cell?_alloc_lt _ _ _ (World.block_lt_of_cell? wA _ a5)).trans a5).trans (by rw [HLJ.out]); have afz := (kkA.frozen (p := ⟨w2.heap.size, 1, none⟩) (heap_lt HXX.out) (by simp)).trans fz5) | (refine step_app_f (W1 := W1) (by rfl) (.tmp 52) (.tmp 62) (by rfl) (by rfl) (by rfl) VS y.2 ?_ ?_ ?_ ?_ (CE2.out _ ?_) HL2.out ?_; (focus (first | exact kkA | exact kkA.alloc _)); (focus (first | exact heap_alloc_new wA _ | exact kA.obj (alloc2_last W1 _ _) (by simp) | exact kA.obj (alloc2_get W1 _ _) (by simp))); (focus (first | exact SZ.out | exact Nat.le_succ_of_le SZ.out | exact Nat.le_trans SZ.out kkA.size)); (focus (first | exact Nat.le_refl _ | exact Nat.le_succ _ | exact kkA.size)); (focus (first | exact kkA | exact kkA.alloc _)); intro P2 Q2 wB oB kB kkB hB; have oA2 : Ob VS wB (.slice P1 y.1.length Q1) y.1 := (by first | exact oA.fresh kB | exact oA.apart kB hA (by simp) (by simp <;> omega)); have b60 := kkB.get s6' (by simp); have b61 := kkB.get e2' (by simp); have b62 := kkB.get g1' (by simp); have b63 := kkB.get g3' (by simp); have b5 := kkB.get x1 (by simp); have b5j := b5.trans (by rw [HLJ.out] : _ = some (Value.slice A j C)); have nb : w2.heap.size ≠ wB.heap.size := Nat.ne_of_lt (World.block_lt_of_cell? wB _ b5); have hdB : (wB.alloc (.cells #[.slice P1 y.1.length Q1, .slice P2 y.2.length Q2] 57)).cell? ⟨w2.heap.size, 1, none⟩ = some (.slice A j C) := ((World.cell?_alloc_lt _ _ _ (World.block_lt_of_cell? wB _ b5)).trans b5).trans (by rw [HLJ.out]); have bfz := (kkB.frozen (p := ⟨w2.heap.size, 1, none⟩) (heap_lt HXX.out) (by simp)).trans fz5) | (refine step_app_p (by rfl) (.tmp 39) (.tmp 65) pi_seals (by rfl) VS (row_kt HRWj.out (Kt.kp (Ts := [57]) (kkB.alloc (.cells #[.slice P1 y.1.length Q1, .slice P2 y.2.length Q2] 57))) (by decide)) (lit_sl wB _ _ _) (by rfl) (by rfl) HJL.out ?_ ?_; (focus (have := SZ.out; have := kkB.size; simp; omega)); intro A9 C9 w7 hrow9 hg9; have k7V := ((HK.out.trans kkB.nil).alloc (.cells #[.slice P1 y.1.length Q1, .slice P2 y.2.length Q2] 57)).grown hg9 (fun b hb => .inr (by (have := (row_block HRWj.out hb).1; omega))); have c60 := k7V.get V6.out (by simpa using nn1); have c61 := k7V.get V2.out (by simpa using nn2); have c62 := k7V.get VG1.out (by simpa using nn3); have c63 := k7V.get VG3.out (by simpa using nn3); have X7 := row_ktG (Ts := [54]) (row_kt HRWj.out (Kt.kp (Ts := [57]) (kkB.alloc (.cells #[.slice P1 y.1.length Q1, .slice P2 y.2.length Q2] 57))) (by decide)) hg9 (by decide) _ _ _ _ ((kkB.alloc (.cells #[.slice P1 y.1.length Q1, .slice P2 y.2.length Q2] 57)).obj HXX.out (by simp)) (by decide); have c5 : w7.cell? ⟨w2.heap.size, 1, none⟩ = some (.slice A j C) := (heap_cell X7 1).trans (by rw [← HLJ.out]; simp); have cfz := heap_free X7 1; clear X7) | fail)
              refine hK.out _ _ ?_ (fun hHeld => ?_)
              · (try dsimp only)
                (first | with_reducible exact ⟨c60, c61, c62, c63, c5⟩ | with_reducible exact ⟨b60, b61, b62, b63, b5j⟩ | with_reducible exact ⟨a60, a61, a62, a63, a5j⟩ | go_keep)
              clear hK K
              refine wpAnyR_ready (rs := [14]) (by kernel_rfl) (by simp) ?_
              refine AllReadyR.cons rfl (fun K hK => ?s27) ?m27
              case s27 =>
                skip
                go_simp
                refine hK.out _ _ ?_ (fun hHeld => ?_)
                · (try dsimp only)
                  (first | with_reducible exact ⟨c60, c61, c62, c63, c5⟩ | with_reducible exact ⟨b60, b61, b62, b63, b5j⟩ | with_reducible exact ⟨a60, a61, a62, a63, a5j⟩ | go_keep)
                clear hK K
                refine wpAnyR_ready (rs := [25]) (by kernel_rfl) (by simp) ?_
                refine AllReadyR.cons rfl (fun K hK => ?s29) ?m29
                case s29 =>
                  skip
                  (first | (refine step_app_f (W1 := W1) (by rfl) (.tmp 40) (.tmp 50) (by rfl) (by rfl) (by rfl) VS y.1 ?_ ?_ ?_ ?_ (CE1.out _ ?_) HL1.out ?_; (focus (repeat (first | exact Kp.refl _ _ | apply Kp.drew | apply Kp.alloc))); (focus (first | exact heap_alloc_new W1 _ | exact alloc2_get W1 _ _ | exact alloc2_last W1 _ _)); (focus (first | exact SZ.out | exact Nat.le_succ_of_le SZ.out)); (focus (first | exact Nat.le_refl _ | exact Nat.le_succ _)); (focus (repeat (first | exact Kp.refl _ _ | apply Kp.drew | apply Kp.alloc))); intro P1 Q1 wA oA kA kkA hA; have a60 := kkA.get s6' (by simp); have a61 := kkA.get e2' (by simp); have a62 := kkA.get g1' (by simp); have a63 := kkA.get g3' (by simp); have a5 := kkA.get x1 (by simp); have a5j := a5.trans (by rw [HLJ.out] : _ = some (Value.slice A j C)); have na : w2.heap.size ≠ wA.heap.size := Nat.ne_of_lt (World.block_lt_of_cell? wA _ a5); have hdA : (wA.alloc (.cells #[] 5)).cell? ⟨w2.heap.size, 1, none⟩ = some (.slice A j C) := ((World.cell?_alloc_lt _ _ _ (World.block_lt_of_cell? wA _ a5)).trans a5).trans (by rw [HLJ.out]); have afz := (kkA.frozen (p := ⟨w2.heap.size, 1, none⟩) (heap_lt HXX.out) (by simp)).trans fz5) | (refine step_app_f (W1 := W1) (by rfl) (.tmp 52) (.tmp 62) (by rfl) (by rfl) (by rfl) VS y.2 ?_ ?_ ?_ ?_ (CE2.out _ ?_) HL2.out ?_; (focus (first | exact kkA | exact kkA.alloc _)); (focus (first | exact heap_alloc_new wA _ | exact kA.obj (alloc2_last W1 _ _) (by simp) | exact kA.obj (alloc2_get W1 _ _) (by simp))); (focus (first | exact SZ.out | exact Nat.le_succ_of_le SZ.out | exact Nat.le_trans SZ.out kkA.size)); (focus (first | exact Nat.le_refl _ | exact Nat.le_succ _ | exact kkA.size)); (focus (first | exact kkA | exact kkA.alloc _)); intro P2 Q2 wB oB kB kkB hB; have oA2 : Ob VS wB (.slice P1 y.1.length Q1) y.1 := (by first | exact oA.fresh kB | exact oA.apart kB hA (by simp) (by simp <;> omega)); have b60 := kkB.get s6' (by simp); have b61 := kkB.get e2' (by simp); have b62 := kkB.get g1' (by simp); have b63 := kkB.get g3' (by simp); have b5 := kkB.get x1 (by simp); have b5j := b5.trans (by rw [HLJ.out] : _ = some (Value.slice A j C)); have nb : w2.heap.size ≠ wB.heap.size := Nat.ne_of_lt (World.block_lt_of_cell? wB _ b5); have hdB : (wB.alloc (.cells #[.slice P1 y.1.length Q1, .slice P2 y.2.length Q2] 57)).cell? ⟨w2.heap.size, 1, none⟩ = some (.slice A j C) := ((World.cell?_alloc_lt _ _ _ (World.block_lt_of_cell? wB _ b5)).trans b5).trans (by rw [HLJ.out]); have bfz := (kkB.frozen (p := ⟨w2.heap.size, 1, none⟩) (heap_lt HXX.out) (by simp)).trans fz5) | (refine step_app_p (by rfl) (.tmp 39) (.tmp 65) pi_seals (by rfl) VS (row_kt HRWj.out (Kt.kp (Ts := [57]) (kkB.alloc (.cells #[.slice P1 y.1.length Q1, .slice P2 y.2.length Q2] 57))) (by decide)) (lit_sl wB _ _ _) (by rfl) (by rfl) HJL.out ?_ ?_; (focus (have := SZ.out; have := kkB.size; simp; omega)); intro A9 C9 w7 hrow9 hg9; have k7V := ((HK.out.trans kkB.nil).alloc (.cells #[.slice P1 y.1.length Q1, .slice P2 y.2.length Q2] 57)).grown hg9 (fun b hb => .inr (by (have := (row_block HRWj.out hb).1; omega))); have c60 := k7V.get V6.out (by simpa using nn1); have c61 := k7V.get V2.out (by simpa using nn2); have c62 := k7V.get VG1.out (by simpa using nn3); have c63 := k7V.get VG3.out (by simpa using nn3); have X7 := row_ktG (Ts := [54]) (row_kt HRWj.out (Kt.kp (Ts := [57]) (kkB.alloc (.cells #[.slice P1 y.1.length Q1, .slice P2 y.2.length Q2] 57))) (by decide)) hg9 (by decide) _ _ _ _ ((kkB.alloc (.cells #[.slice P1 y.1.length Q1, .slice P2 y.2.length Q2] 57)).obj HXX.out (by simp)) (by decide); have c5 : w7.cell? ⟨w2.heap.size, 1, none⟩ = some (.slice A j C) := (heap_cell X7 1).trans (by rw [← HLJ.out]; simp); have cfz := heap_free X7 1; clear X7) | fail)
                  refine hK.out _ _ ?_ (fun hHeld => ?_)
                  · (try dsimp only)
                    (first | with_reducible exact ⟨c60, c61, c62, c63, c5⟩ | with_reducible exact ⟨b60, b61, b62, b63, b5j⟩ | with_reducible exact ⟨a60, a61, a62, a63, a5j⟩ | go_keep)
                  clear hK K
                  refine wpAnyR_take (i := 26) (v := ?v31) rfl (by kernel_rfl) (by kernel_rfl) (by kernel_rfl) (by kernel_rfl) (fun _ _ _ h => h) (Or.inl ⟨by rfl, ?y31⟩) (by assumption) ?r31
                  case y31 => (intro w hSw; (try dsimp only at hSw); go_simp) <;> with_reducible rfl
                  (try simp only [Act.put, List.getElem_toArray, List.getElem_cons_succ, List.getElem_cons_zero, List.setIfInBounds_toArray, List.set_cons_zero, List.set_cons_succ])
                  refine wpAnyR_ready (rs := [27]) (by kernel_rfl) (by simp) ?_
                  refine AllReadyR.cons rfl (fun K hK => ?s32) ?m32
                  case s32 =>
                    skip
                    go_simp
                    refine hK.out _ _ ?_ (fun hHeld => ?_)
                    · (try dsimp only)
                      (first | with_reducible exact ⟨c60, c61, c62, c63, c5⟩ | with_reducible exact ⟨b60, b61, b62, b63, b5j⟩ | with_reducible exact ⟨a60, a61, a62, a63, a5j⟩ | go_keep)
                    clear hK K
                    refine wpAnyR_ready (rs := [28]) (by kernel_rfl) (by simp) ?_
                    refine AllReadyR.cons rfl (fun K hK => ?s34) ?m34
                    case s34 =>
                      skip
                      (first | (refine step_app_f (W1 := W1) (by rfl) (.tmp 40) (.tmp 50) (by rfl) (by rfl) (by rfl) VS y.1 ?_ ?_ ?_ ?_ (CE1.out _ ?_) HL1.out ?_; (focus (repeat (first | exact Kp.refl _ _ | apply Kp.drew | apply Kp.alloc))); (focus (first | exact heap_alloc_new W1 _ | exact alloc2_get W1 _ _ | exact alloc2_last W1 _ _)); (focus (first | exact SZ.out | exact Nat.le_succ_of_le SZ.out)); (focus (first | exact Nat.le_refl _ | exact Nat.le_succ _)); (focus (repeat (first | exact Kp.refl _ _ | apply Kp.drew | apply Kp.alloc))); intro P1 Q1 wA oA kA kkA hA; have a60 := kkA.get s6' (by simp); have a61 := kkA.get e2' (by simp); have a62 := kkA.get g1' (by simp); have a63 := kkA.get g3' (by simp); have a5 := kkA.get x1 (by simp); have a5j := a5.trans (by rw [HLJ.out] : _ = some (Value.slice A j C)); have na : w2.heap.size ≠ wA.heap.size := Nat.ne_of_lt (World.block_lt_of_cell? wA _ a5); have hdA : (wA.alloc (.cells #[] 5)).cell? ⟨w2.heap.size, 1, none⟩ = some (.slice A j C) := ((World.cell?_alloc_lt _ _ _ (World.block_lt_of_cell? wA _ a5)).trans a5).trans (by rw [HLJ.out]); have afz := (kkA.frozen (p := ⟨w2.heap.size, 1, none⟩) (heap_lt HXX.out) (by simp)).trans fz5) | (refine step_app_f (W1 := W1) (by rfl) (.tmp 52) (.tmp 62) (by rfl) (by rfl) (by rfl) VS y.2 ?_ ?_ ?_ ?_ (CE2.out _ ?_) HL2.out ?_; (focus (first | exact kkA | exact kkA.alloc _)); (focus (first | exact heap_alloc_new wA _ | exact kA.obj (alloc2_last W1 _ _) (by simp) | exact kA.obj (alloc2_get W1 _ _) (by simp))); (focus (first | exact SZ.out | exact Nat.le_succ_of_le SZ.out | exact Nat.le_trans SZ.out kkA.size)); (focus (first | exact Nat.le_refl _ | exact Nat.le_succ _ | exact kkA.size)); (focus (first | exact kkA | exact kkA.alloc _)); intro P2 Q2 wB oB kB kkB hB; have oA2 : Ob VS wB (.slice P1 y.1.length Q1) y.1 := (by first | exact oA.fresh kB | exact oA.apart kB hA (by simp) (by simp <;> omega)); have b60 := kkB.get s6' (by simp); have b61 := kkB.get e2' (by simp); have b62 := kkB.get g1' (by simp); have b63 := kkB.get g3' (by simp); have b5 := kkB.get x1 (by simp); have b5j := b5.trans (by rw [HLJ.out] : _ = some (Value.slice A j C)); have nb : w2.heap.size ≠ wB.heap.size := Nat.ne_of_lt (World.block_lt_of_cell? wB _ b5); have hdB : (wB.alloc (.cells #[.slice P1 y.1.length Q1, .slice P2 y.2.length Q2] 57)).cell? ⟨w2.heap.size, 1, none⟩ = some (.slice A j C) := ((World.cell?_alloc_lt _ _ _ (World.block_lt_of_cell? wB _ b5)).trans b5).trans (by rw [HLJ.out]); have bfz := (kkB.frozen (p := ⟨w2.heap.size, 1, none⟩) (heap_lt HXX.out) (by simp)).trans fz5) | (refine step_app_p (by rfl) (.tmp 39) (.tmp 65) pi_seals (by rfl) VS (row_kt HRWj.out (Kt.kp (Ts := [57]) (kkB.alloc (.cells #[.slice P1 y.1.length Q1, .slice P2 y.2.length Q2] 57))) (by decide)) (lit_sl wB _ _ _) (by rfl) (by rfl) HJL.out ?_ ?_; (focus (have := SZ.out; have := kkB.size; simp; omega)); intro A9 C9 w7 hrow9 hg9; have k7V := ((HK.out.trans kkB.nil).alloc (.cells #[.slice P1 y.1.length Q1, .slice P2 y.2.length Q2] 57)).grown hg9 (fun b hb => .inr (by (have := (row_block HRWj.out hb).1; omega))); have c60 := k7V.get V6.out (by simpa using nn1); have c61 := k7V.get V2.out (by simpa using nn2); have c62 := k7V.get VG1.out (by simpa using nn3); have c63 := k7V.get VG3.out (by simpa using nn3); have X7 := row_ktG (Ts := [54]) (row_kt HRWj.out (Kt.kp (Ts := [57]) (kkB.alloc (.cells #[.slice P1 y.1.length Q1, .slice P2 y.2.length Q2] 57))) (by decide)) hg9 (by decide) _ _ _ _ ((kkB.alloc (.cells #[.slice P1 y.1.length Q1, .slice P2 y.2.length Q2] 57)).obj HXX.out (by simp)) (by decide); have c5 : w7.cell? ⟨w2.heap.size, 1, none⟩ = some (.slice A j C) := (heap_cell X7 1).trans (by rw [← HLJ.out]; simp); have cfz := heap_free X7 1; clear X7) | fail)
                      refine hK.out _ _ ?_ (fun hHeld => ?_)
                      · (try dsimp only)
                        (first | with_reducible exact ⟨c60, c61, c62, c63, c5⟩ | with_reducible exact ⟨b60, b61, b62, b63, b5j⟩ | with_reducible exact ⟨a60, a61, a62, a63, a5j⟩ | go_keep)
                      clear hK K
                      refine wpAnyR_take (i := 29) (v := ?v36) rfl (by kernel_rfl) (by kernel_rfl) (by kernel_rfl) (by kernel_rfl) (fun _ _ _ h => h) (Or.inl ⟨by rfl, ?y36⟩) (by assumption) ?r36
                      case y36 => (intro w hSw; (try dsimp only at hSw); go_simp) <;> with_reducible rfl
                      (try simp only [Act.put, List.getElem_toArray, List.getElem_cons_succ, List.getElem_cons_zero, List.setIfInBounds_toArray, List.set_cons_zero, List.set_cons_succ])
                      refine wpAnyR_ready (rs := [30]) (by kernel_rfl) (by simp) ?_
                      refine AllReadyR.final rfl (fun K hK => ?_)
                      skip
                      go_simp
                      refine hK.out _ _ ?_
                      clear hK K
                      refine wpAnyR_done (by kernel_rfl) ?_ _
                      subst HVS
                      have hL9 := LpI.add HK.out HXX.out HRW.out HAL.out kkB oA2 oB (by rw [HLJ.out]; exact hrow9) (by rw [HLJ.out]; exact hg9)
                      rw [HLJ.out] at hL9
                      have HL := Lib.hid hL9
                      clear hL9
                      clear kkB kkA kA kB oA oB oA2 hA hB hrow9 hg9 a60 a61 a62 a63 b60 b61 b62 b63 c60 c61 c62 c63 k7V a5 b5 c5 afz bfz cfz na nb hdA hdB
                      go_wp2
                      go_roundw
                      case rel => exact ⟨j + 1, by omega, by go_num, A9, C9, Lib.hid HL.out.1, Lib.hid (by rw [HT2.out]; exact HL.out.2.1), Lib.hid (by rw [HT2.out]; exact HL.out.2.2)⟩
                      case measure => simp [intOf]; omega
                    exact AllReadyR.nil
                  exact AllReadyR.nil
                exact AllReadyR.nil
              exact AllReadyR.nil
            refine AllReadyR.cons rfl (fun K hK => ?s38) ?m38
            case s38 =>
              skip
              go_simp
              refine hK.out _ _ ?_ (fun hHeld => ?_)
              · (try dsimp only)
                (first | with_reducible exact ⟨c60, c61, c62, c63, c5⟩ | with_reducible exact ⟨b60, b61, b62, b63, b5j⟩ | with_reducible exact ⟨a60, a61, a62, a63, a5j⟩ | go_keep)
              clear hK K
              refine wpAnyR_ready (rs := [13]) (by kernel_rfl) (by simp) ?_
              refine AllReadyR.cons rfl (fun K hK => ?s40) ?m40
              case s40 =>
                skip
                (first | (refine step_app_f (W1 := W1) (by rfl) (.tmp 40) (.tmp 50) (by rfl) (by rfl) (by rfl) VS y.1 ?_ ?_ ?_ ?_ (CE1.out _ ?_) HL1.out ?_; (focus (repeat (first | exact Kp.refl _ _ | apply Kp.drew | apply Kp.alloc))); (focus (first | exact heap_alloc_new W1 _ | exact alloc2_get W1 _ _ | exact alloc2_last W1 _ _)); (focus (first | exact SZ.out | exact Nat.le_succ_of_le SZ.out)); (focus (first | exact Nat.le_refl _ | exact Nat.le_succ _)); (focus (repeat (first | exact Kp.refl _ _ | apply Kp.drew | apply Kp.alloc))); intro P1 Q1 wA oA kA kkA hA; have a60 := kkA.get s6' (by simp); have a61 := kkA.get e2' (by simp); have a62 := kkA.get g1' (by simp); have a63 := kkA.get g3' (by simp); have a5 := kkA.get x1 (by simp); have a5j := a5.trans (by rw [HLJ.out] : _ = some (Value.slice A j C)); have na : w2.heap.size ≠ wA.heap.size := Nat.ne_of_lt (World.block_lt_of_cell? wA _ a5); have hdA : (wA.alloc (.cells #[] 5)).cell? ⟨w2.heap.size, 1, none⟩ = some (.slice A j C) := ((World.cell?_alloc_lt _ _ _ (World.block_lt_of_cell? wA _ a5)).trans a5).trans (by rw [HLJ.out]); have afz := (kkA.frozen (p := ⟨w2.heap.size, 1, none⟩) (heap_lt HXX.out) (by simp)).trans fz5) | (refine step_app_f (W1 := W1) (by rfl) (.tmp 52) (.tmp 62) (by rfl) (by rfl) (by rfl) VS y.2 ?_ ?_ ?_ ?_ (CE2.out _ ?_) HL2.out ?_; (focus (first | exact kkA | exact kkA.alloc _)); (focus (first | exact heap_alloc_new wA _ | exact kA.obj (alloc2_last W1 _ _) (by simp) | exact kA.obj (alloc2_get W1 _ _) (by simp))); (focus (first | exact SZ.out | exact Nat.le_succ_of_le SZ.out | exact Nat.le_trans SZ.out kkA.size)); (focus (first | exact Nat.le_refl _ | exact Nat.le_succ _ | exact kkA.size)); (focus (first | exact kkA | exact kkA.alloc _)); intro P2 Q2 wB oB kB kkB hB; have oA2 : Ob VS wB (.slice P1 y.1.length Q1) y.1 := (by first | exact oA.fresh kB | exact oA.apart kB hA (by simp) (by simp <;> omega)); have b60 := kkB.get s6' (by simp); have b61 := kkB.get e2' (by simp); have b62 := kkB.get g1' (by simp); have b63 := kkB.get g3' (by simp); have b5 := kkB.get x1 (by simp); have b5j := b5.trans (by rw [HLJ.out] : _ = some (Value.slice A j C)); have nb : w2.heap.size ≠ wB.heap.size := Nat.ne_of_lt (World.block_lt_of_cell? wB _ b5); have hdB : (wB.alloc (.cells #[.slice P1 y.1.length Q1, .slice P2 y.2.length Q2] 57)).cell? ⟨w2.heap.size, 1, none⟩ = some (.slice A j C) := ((World.cell?_alloc_lt _ _ _ (World.block_lt_of_cell? wB _ b5)).trans b5).trans (by rw [HLJ.out]); have bfz := (kkB.frozen (p := ⟨w2.heap.size, 1, none⟩) (heap_lt HXX.out) (by simp)).trans fz5) | (refine step_app_p (by rfl) (.tmp 39) (.tmp 65) pi_seals (by rfl) VS (row_kt HRWj.out (Kt.kp (Ts := [57]) (kkB.alloc (.cells #[.slice P1 y.1.length Q1, .slice P2 y.2.length Q2] 57))) (by decide)) (lit_sl wB _ _ _) (by rfl) (by rfl) HJL.out ?_ ?_; (focus (have := SZ.out; have := kkB.size; simp; omega)); intro A9 C9 w7 hrow9 hg9; have k7V := ((HK.out.trans kkB.nil).alloc (.cells #[.slice P1 y.1.length Q1, .slice P2 y.2.length Q2] 57)).grown hg9 (fun b hb => .inr (by (have := (row_block HRWj.out hb).1; omega))); have c60 := k7V.get V6.out (by simpa using nn1); have c61 := k7V.get V2.out (by simpa using nn2); have c62 := k7V.get VG1.out (by simpa using nn3); have c63 := k7V.get VG3.out (by simpa using nn3); have X7 := row_ktG (Ts := [54]) (row_kt HRWj.out (Kt.kp (Ts := [57]) (kkB.alloc (.cells #[.slice P1 y.1.length Q1, .slice P2 y.2.length Q2] 57))) (by decide)) hg9 (by decide) _ _ _ _ ((kkB.alloc (.cells #[.slice P1 y.1.length Q1, .slice P2 y.2.length Q2] 57)).obj HXX.out (by simp)) (by decide); have c5 : w7.cell? ⟨w2.heap.size, 1, none⟩ = some (.slice A j C) := (heap_cell X7 1).trans (by rw [← HLJ.out]; simp); have cfz := heap_free X7 1; clear X7) | fail)
                refine hK.out _ _ ?_ (fun hHeld => ?_)
                · (try dsimp only)
                  (first | with_reducible exact ⟨c60, c61, c62, c63, c5⟩ | with_reducible exact ⟨b60, b61, b62, b63, b5j⟩ | with_reducible exact ⟨a60, a61, a62, a63, a5j⟩ | go_keep)
                clear hK K
                refine wpAnyR_ready (rs := [25]) (by kernel_rfl) (by simp) ?_
                refine AllReadyR.cons rfl (fun K hK => ?s42) ?m42
                case s42 =>
                  skip
                  (first | (refine step_app_f (W1 := W1) (by rfl) (.tmp 40) (.tmp 50) (by rfl) (by rfl) (by rfl) VS y.1 ?_ ?_ ?_ ?_ (CE1.out _ ?_) HL1.out ?_; (focus (repeat (first | exact Kp.refl _ _ | apply Kp.drew | apply Kp.alloc))); (focus (first | exact heap_alloc_new W1 _ | exact alloc2_get W1 _ _ | exact alloc2_last W1 _ _)); (focus (first | exact SZ.out | exact Nat.le_succ_of_le SZ.out)); (focus (first | exact Nat.le_refl _ | exact Nat.le_succ _)); (focus (repeat (first | exact Kp.refl _ _ | apply Kp.drew | apply Kp.alloc))); intro P1 Q1 wA oA kA kkA hA; have a60 := kkA.get s6' (by simp); have a61 := kkA.get e2' (by simp); have a62 := kkA.get g1' (by simp); have a63 := kkA.get g3' (by simp); have a5 := kkA.get x1 (by simp); have a5j := a5.trans (by rw [HLJ.out] : _ = some (Value.slice A j C)); have na : w2.heap.size ≠ wA.heap.size := Nat.ne_of_lt (World.block_lt_of_cell? wA _ a5); have hdA : (wA.alloc (.cells #[] 5)).cell? ⟨w2.heap.size, 1, none⟩ = some (.slice A j C) := ((World.cell?_alloc_lt _ _ _ (World.block_lt_of_cell? wA _ a5)).trans a5).trans (by rw [HLJ.out]); have afz := (kkA.frozen (p := ⟨w2.heap.size, 1, none⟩) (heap_lt HXX.out) (by simp)).trans fz5) | (refine step_app_f (W1 := W1) (by rfl) (.tmp 52) (.tmp 62) (by rfl) (by rfl) (by rfl) VS y.2 ?_ ?_ ?_ ?_ (CE2.out _ ?_) HL2.out ?_; (focus (first | exact kkA | exact kkA.alloc _)); (focus (first | exact heap_alloc_new wA _ | exact kA.obj (alloc2_last W1 _ _) (by simp) | exact kA.obj (alloc2_get W1 _ _) (by simp))); (focus (first | exact SZ.out | exact Nat.le_succ_of_le SZ.out | exact Nat.le_trans SZ.out kkA.size)); (focus (first | exact Nat.le_refl _ | exact Nat.le_succ _ | exact kkA.size)); (focus (first | exact kkA | exact kkA.alloc _)); intro P2 Q2 wB oB kB kkB hB; have oA2 : Ob VS wB (.slice P1 y.1.length Q1) y.1 := (by first | exact oA.fresh kB | exact oA.apart kB hA (by simp) (by simp <;> omega)); have b60 := kkB.get s6' (by simp); have b61 := kkB.get e2' (by simp); have b62 := kkB.get g1' (by simp); have b63 := kkB.get g3' (by simp); have b5 := kkB.get x1 (by simp); have b5j := b5.trans (by rw [HLJ.out] : _ = some (Value.slice A j C)); have nb : w2.heap.size ≠ wB.heap.size := Nat.ne_of_lt (World.block_lt_of_cell? wB _ b5); have hdB : (wB.alloc (.cells #[.slice P1 y.1.length Q1, .slice P2 y.2.length Q2] 57)).cell? ⟨w2.heap.size, 1, none⟩ = some (.slice A j C) := ((World.cell?_alloc_lt _ _ _ (World.block_lt_of_cell? wB _ b5)).trans b5).trans (by rw [HLJ.out]); have bfz := (kkB.frozen (p := ⟨w2.heap.size, 1, none⟩) (heap_lt HXX.out) (by simp)).trans fz5) | (refine step_app_p (by rfl) (.tmp 39) (.tmp 65) pi_seals (by rfl) VS (row_kt HRWj.out (Kt.kp (Ts := [57]) (kkB.alloc (.cells #[.slice P1 y.1.length Q1, .slice P2 y.2.length Q2] 57))) (by decide)) (lit_sl wB _ _ _) (by rfl) (by rfl) HJL.out ?_ ?_; (focus (have := SZ.out; have := kkB.size; simp; omega)); intro A9 C9 w7 hrow9 hg9; have k7V := ((HK.out.trans kkB.nil).alloc (.cells #[.slice P1 y.1.length Q1, .slice P2 y.2.length Q2] 57)).grown hg9 (fun b hb => .inr (by (have := (row_block HRWj.out hb).1; omega))); have c60 := k7V.get V6.out (by simpa using nn1); have c61 := k7V.get V2.out (by simpa using nn2); have c62 := k7V.get VG1.out (by simpa using nn3); have c63 := k7V.get VG3.out (by simpa using nn3); have X7 := row_ktG (Ts := [54]) (row_kt HRWj.out (Kt.kp (Ts := [57]) (kkB.alloc (.cells #[.slice P1 y.1.length Q1, .slice P2 y.2.length Q2] 57))) (by decide)) hg9 (by decide) _ _ _ _ ((kkB.alloc (.cells #[.slice P1 y.1.length Q1, .slice P2 y.2.length Q2] 57)).obj HXX.out (by simp)) (by decide); have c5 : w7.cell? ⟨w2.heap.size, 1, none⟩ = some (.slice A j C) := (heap_cell X7 1).trans (by rw [← HLJ.out]; simp); have cfz := heap_free X7 1; clear X7) | fail)
                  refine hK.out _ _ ?_ (fun hHeld => ?_)
                  · (try dsimp only)
                    (first | with_reducible exact ⟨c60, c61, c62, c63, c5⟩ | with_reducible exact ⟨b60, b61, b62, b63, b5j⟩ | with_reducible exact ⟨a60, a61, a62, a63, a5j⟩ | go_keep)
                  clear hK K
                  refine wpAnyR_take (i := 26) (v := ?v44) rfl (by kernel_rfl) (by kernel_rfl) (by kernel_rfl) (by kernel_rfl) (fun _ _ _ h => h) (Or.inl ⟨by rfl, ?y44⟩) (by assumption) ?r44
                  case y44 => (intro w hSw; (try dsimp only at hSw); go_simp) <;> with_reducible rfl
                  (try simp only [Act.put, List.getElem_toArray, List.getElem_cons_succ, List.getElem_cons_zero, List.setIfInBounds_toArray, List.set_cons_zero, List.set_cons_succ])
                  refine wpAnyR_ready (rs := [27]) (by kernel_rfl) (by simp) ?_
                  refine AllReadyR.cons rfl (fun K hK => ?s45) ?m45
                  case s45 =>
                    skip
                    go_simp
                    refine hK.out _ _ ?_ (fun hHeld => ?_)
                    · (try dsimp only)
                      (first | with_reducible exact ⟨c60, c61, c62, c63, c5⟩ | with_reducible exact ⟨b60, b61, b62, b63, b5j⟩ | with_reducible exact ⟨a60, a61, a62, a63, a5j⟩ | go_keep)
                    clear hK K
                    refine wpAnyR_ready (rs := [28]) (by kernel_rfl) (by simp) ?_
                    refine AllReadyR.cons rfl (fun K hK => ?s47) ?m47
                    case s47 =>
                      skip
                      (first | (refine step_app_f (W1 := W1) (by rfl) (.tmp 40) (.tmp 50) (by rfl) (by rfl) (by rfl) VS y.1 ?_ ?_ ?_ ?_ (CE1.out _ ?_) HL1.out ?_; (focus (repeat (first | exact Kp.refl _ _ | apply Kp.drew | apply Kp.alloc))); (focus (first | exact heap_alloc_new W1 _ | exact alloc2_get W1 _ _ | exact alloc2_last W1 _ _)); (focus (first | exact SZ.out | exact Nat.le_succ_of_le SZ.out)); (focus (first | exact Nat.le_refl _ | exact Nat.le_succ _)); (focus (repeat (first | exact Kp.refl _ _ | apply Kp.drew | apply Kp.alloc))); intro P1 Q1 wA oA kA kkA hA; have a60 := kkA.get s6' (by simp); have a61 := kkA.get e2' (by simp); have a62 := kkA.get g1' (by simp); have a63 := kkA.get g3' (by simp); have a5 := kkA.get x1 (by simp); have a5j := a5.trans (by rw [HLJ.out] : _ = some (Value.slice A j C)); have na : w2.heap.size ≠ wA.heap.size := Nat.ne_of_lt (World.block_lt_of_cell? wA _ a5); have hdA : (wA.alloc (.cells #[] 5)).cell? ⟨w2.heap.size, 1, none⟩ = some (.slice A j C) := ((World.cell?_alloc_lt _ _ _ (World.block_lt_of_cell? wA _ a5)).trans a5).trans (by rw [HLJ.out]); have afz := (kkA.frozen (p := ⟨w2.heap.size, 1, none⟩) (heap_lt HXX.out) (by simp)).trans fz5) | (refine step_app_f (W1 := W1) (by rfl) (.tmp 52) (.tmp 62) (by rfl) (by rfl) (by rfl) VS y.2 ?_ ?_ ?_ ?_ (CE2.out _ ?_) HL2.out ?_; (focus (first | exact kkA | exact kkA.alloc _)); (focus (first | exact heap_alloc_new wA _ | exact kA.obj (alloc2_last W1 _ _) (by simp) | exact kA.obj (alloc2_get W1 _ _) (by simp))); (focus (first | exact SZ.out | exact Nat.le_succ_of_le SZ.out | exact Nat.le_trans SZ.out kkA.size)); (focus (first | exact Nat.le_refl _ | exact Nat.le_succ _ | exact kkA.size)); (focus (first | exact kkA | exact kkA.alloc _)); intro P2 Q2 wB oB kB kkB hB; have oA2 : Ob VS wB (.slice P1 y.1.length Q1) y.1 := (by first | exact oA.fresh kB | exact oA.apart kB hA (by simp) (by simp <;> omega)); have b60 := kkB.get s6' (by simp); have b61 := kkB.get e2' (by simp); have b62 := kkB.get g1' (by simp); have b63 := kkB.get g3' (by simp); have b5 := kkB.get x1 (by simp); have b5j := b5.trans (by rw [HLJ.out] : _ = some (Value.slice A j C)); have nb : w2.heap.size ≠ wB.heap.size := Nat.ne_of_lt (World.block_lt_of_cell? wB _ b5); have hdB : (wB.alloc (.cells #[.slice P1 y.1.length Q1, .slice P2 y.2.length Q2] 57)).cell? ⟨w2.heap.size, 1, none⟩ = some (.slice A j C) := ((World.cell?_alloc_lt _ _ _ (World.block_lt_of_cell? wB _ b5)).trans b5).trans (by rw [HLJ.out]); have bfz := (kkB.frozen (p := ⟨w2.heap.size, 1, none⟩) (heap_lt HXX.out) (by simp)).trans fz5) | (refine step_app_p (by rfl) (.tmp 39) (.tmp 65) pi_seals (by rfl) VS (row_kt HRWj.out (Kt.kp (Ts := [57]) (kkB.alloc (.cells #[.slice P1 y.1.length Q1, .slice P2 y.2.length Q2] 57))) (by decide)) (lit_sl wB _ _ _) (by rfl) (by rfl) HJL.out ?_ ?_; (focus (have := SZ.out; have := kkB.size; simp; omega)); intro A9 C9 w7 hrow9 hg9; have k7V := ((HK.out.trans kkB.nil).alloc (.cells #[.slice P1 y.1.length Q1, .slice P2 y.2.length Q2] 57)).grown hg9 (fun b hb => .inr (by (have := (row_block HRWj.out hb).1; omega))); have c60 := k7V.get V6.out (by simpa using nn1); have c61 := k7V.get V2.out (by simpa using nn2); have c62 := k7V.get VG1.out (by simpa using nn3); have c63 := k7V.get VG3.out (by simpa using nn3); have X7 := row_ktG (Ts := [54]) (row_kt HRWj.out (Kt.kp (Ts := [57]) (kkB.alloc (.cells #[.slice P1 y.1.length Q1, .slice P2 y.2.length Q2] 57))) (by decide)) hg9 (by decide) _ _ _ _ ((kkB.alloc (.cells #[.slice P1 y.1.length Q1, .slice P2 y.2.length Q2] 57)).obj HXX.out (by simp)) (by decide); have c5 : w7.cell? ⟨w2.heap.size, 1, none⟩ = some (.slice A j C) := (heap_cell X7 1).trans (by rw [← HLJ.out]; simp); have cfz := heap_free X7 1; clear X7) | fail)
                      refine hK.out _ _ ?_ (fun hHeld => ?_)
                      · (try dsimp only)
                        (first | with_reducible exact ⟨c60, c61, c62, c63, c5⟩ | with_reducible exact ⟨b60, b61, b62, b63, b5j⟩ | with_reducible exact ⟨a60, a61, a62, a63, a5j⟩ | go_keep)
                      clear hK K
                      refine wpAnyR_take (i := 29) (v := ?v49) rfl (by kernel_rfl) (by kernel_rfl) (by kernel_rfl) (by kernel_rfl) (fun _ _ _ h => h) (Or.inl ⟨by rfl, ?y49⟩) (by assumption) ?r49
                      case y49 => (intro w hSw; (try dsimp only at hSw); go_simp) <;> with_reducible rfl
                      (try simp only [Act.put, List.getElem_toArray, List.getElem_cons_succ, List.getElem_cons_zero, List.setIfInBounds_toArray, List.set_cons_zero, List.set_cons_succ])
                      refine wpAnyR_ready (rs := [30]) (by kernel_rfl) (by simp) ?_
                      refine AllReadyR.final rfl (fun K hK => ?_)
                      skip
                      go_simp
                      refine hK.out _ _ ?_
                      clear hK K
                      refine wpAnyR_done (by kernel_rfl) ?_ _
                      subst HVS
                      have hL9 := LpI.add HK.out HXX.out HRW.out HAL.out kkB oA2 oB (by rw [HLJ.out]; exact hrow9) (by rw [HLJ.out]; exact hg9)
                      rw [HLJ.out] at hL9
                      have HL := Lib.hid hL9
                      clear hL9
                      clear kkB kkA kA kB oA oB oA2 hA hB hrow9 hg9 a60 a61 a62 a63 b60 b61 b62 b63 c60 c61 c62 c63 k7V a5 b5 c5 afz bfz cfz na nb hdA hdB
                      go_wp2
                      go_roundw
                      case rel => exact ⟨j + 1, by omega, by go_num, A9, C9, Lib.hid HL.out.1, Lib.hid (by rw [HT2.out]; exact HL.out.2.1), Lib.hid (by rw [HT2.out]; exact HL.out.2.2)⟩
                      case measure => simp [intOf]; omega
                    exact AllReadyR.nil
                  exact AllReadyR.nil
                exact AllReadyR.nil
              exact AllReadyR.nil
            exact AllReadyR.nil
          refine AllReadyR.cons rfl (fun K hK => ?s51) ?m51
          case s51 =>
            skip
            go_simp
            refine hK.out _ _ ?_ (fun hHeld => ?_)
            · (try dsimp only)
              (first | with_reducible exact ⟨c60, c61, c62, c63, c5⟩ | with_reducible exact ⟨b60, b61, b62, b63, b5j⟩ | with_reducible exact ⟨a60, a61, a62, a63, a5j⟩ | go_keep)
            clear hK K
            refine wpAnyR_ready (rs := [2]) (by kernel_rfl) (by simp) ?_
            refine AllReadyR.cons rfl (fun K hK => ?s53) ?m53
            case s53 =>
              skip
              go_simp
              refine hK.out _ _ ?_ (fun hHeld => ?_)
              · (try dsimp only)
                (first | with_reducible exact ⟨c60, c61, c62, c63, c5⟩ | with_reducible exact ⟨b60, b61, b62, b63, b5j⟩ | with_reducible exact ⟨a60, a61, a62, a63, a5j⟩ | go_keep)
              clear hK K
              refine wpAnyR_ready (rs := [13]) (by kernel_rfl) (by simp) ?_
              refine AllReadyR.cons rfl (fun K hK => ?s55) ?m55
              case s55 =>
                skip
                (first | (refine step_app_f (W1 := W1) (by rfl) (.tmp 40) (.tmp 50) (by rfl) (by rfl) (by rfl) VS y.1 ?_ ?_ ?_ ?_ (CE1.out _ ?_) HL1.out ?_; (focus (repeat (first | exact Kp.refl _ _ | apply Kp.drew | apply Kp.alloc))); (focus (first | exact heap_alloc_new W1 _ | exact alloc2_get W1 _ _ | exact alloc2_last W1 _ _)); (focus (first | exact SZ.out | exact Nat.le_succ_of_le SZ.out)); (focus (first | exact Nat.le_refl _ | exact Nat.le_succ _)); (focus (repeat (first | exact Kp.refl _ _ | apply Kp.drew | apply Kp.alloc))); intro P1 Q1 wA oA kA kkA hA; have a60 := kkA.get s6' (by simp); have a61 := kkA.get e2' (by simp); have a62 := kkA.get g1' (by simp); have a63 := kkA.get g3' (by simp); have a5 := kkA.get x1 (by simp); have a5j := a5.trans (by rw [HLJ.out] : _ = some (Value.slice A j C)); have na : w2.heap.size ≠ wA.heap.size := Nat.ne_of_lt (World.block_lt_of_cell? wA _ a5); have hdA : (wA.alloc (.cells #[] 5)).cell? ⟨w2.heap.size, 1, none⟩ = some (.slice A j C) := ((World.cell?_alloc_lt _ _ _ (World.block_lt_of_cell? wA _ a5)).trans a5).trans (by rw [HLJ.out]); have afz := (kkA.frozen (p := ⟨w2.heap.size, 1, none⟩) (heap_lt HXX.out) (by simp)).trans fz5) | (refine step_app_f (W1 := W1) (by rfl) (.tmp 52) (.tmp 62) (by rfl) (by rfl) (by rfl) VS y.2 ?_ ?_ ?_ ?_ (CE2.out _ ?_) HL2.out ?_; (focus (first | exact kkA | exact kkA.alloc _)); (focus (first | exact heap_alloc_new wA _ | exact kA.obj (alloc2_last W1 _ _) (by simp) | exact kA.obj (alloc2_get W1 _ _) (by simp))); (focus (first | exact SZ.out | exact Nat.le_succ_of_le SZ.out | exact Nat.le_trans SZ.out kkA.size)); (focus (first | exact Nat.le_refl _ | exact Nat.le_succ _ | exact kkA.size)); (focus (first | exact kkA | exact kkA.alloc _)); intro P2 Q2 wB oB kB kkB hB; have oA2 : Ob VS wB (.slice P1 y.1.length Q1) y.1 := (by first | exact oA.fresh kB | exact oA.apart kB hA (by simp) (by simp <;> omega)); have b60 := kkB.get s6' (by simp); have b61 := kkB.get e2' (by simp); have b62 := kkB.get g1' (by simp); have b63 := kkB.get g3' (by simp); have b5 := kkB.get x1 (by simp); have b5j := b5.trans (by rw [HLJ.out] : _ = some (Value.slice A j C)); have nb : w2.heap.size ≠ wB.heap.size := Nat.ne_of_lt (World.block_lt_of_cell? wB _ b5); have hdB : (wB.alloc (.cells #[.slice P1 y.1.length Q1, .slice P2 y.2.length Q2] 57)).cell? ⟨w2.heap.size, 1, none⟩ = some (.slice A j C) := ((World.cell?_alloc_lt _ _ _ (World.block_lt_of_cell? wB _ b5)).trans b5).trans (by rw [HLJ.out]); have bfz := (kkB.frozen (p := ⟨w2.heap.size, 1, none⟩) (heap_lt HXX.out) (by simp)).trans fz5) | (refine step_app_p (by rfl) (.tmp 39) (.tmp 65) pi_seals (by rfl) VS (row_kt HRWj.out (Kt.kp (Ts := [57]) (kkB.alloc (.cells #[.slice P1 y.1.length Q1, .slice P2 y.2.length Q2] 57))) (by decide)) (lit_sl wB _ _ _) (by rfl) (by rfl) HJL.out ?_ ?_; (focus (have := SZ.out; have := kkB.size; simp; omega)); intro A9 C9 w7 hrow9 hg9; have k7V := ((HK.out.trans kkB.nil).alloc (.cells #[.slice P1 y.1.length Q1, .slice P2 y.2.length Q2] 57)).grown hg9 (fun b hb => .inr (by (have := (row_block HRWj.out hb).1; omega))); have c60 := k7V.get V6.out (by simpa using nn1); have c61 := k7V.get V2.out (by simpa using nn2); have c62 := k7V.get VG1.out (by simpa using nn3); have c63 := k7V.get VG3.out (by simpa using nn3); have X7 := row_ktG (Ts := [54]) (row_kt HRWj.out (Kt.kp (Ts := [57]) (kkB.alloc (.cells #[.slice P1 y.1.length Q1, .slice P2 y.2.length Q2] 57))) (by decide)) hg9 (by decide) _ _ _ _ ((kkB.alloc (.cells #[.slice P1 y.1.length Q1, .slice P2 y.2.length Q2] 57)).obj HXX.out (by simp)) (by decide); have c5 : w7.cell? ⟨w2.heap.size, 1, none⟩ = some (.slice A j C) := (heap_cell X7 1).trans (by rw [← HLJ.out]; simp); have cfz := heap_free X7 1; clear X7) | fail)
                refine hK.out _ _ ?_ (fun hHeld => ?_)
                · (try dsimp only)
                  (first | with_reducible exact ⟨c60, c61, c62, c63, c5⟩ | with_reducible exact ⟨b60, b61, b62, b63, b5j⟩ | with_reducible exact ⟨a60, a61, a62, a63, a5j⟩ | go_keep)
                clear hK K
                refine wpAnyR_ready (rs := [25]) (by kernel_rfl) (by simp) ?_
                refine AllReadyR.cons rfl (fun K hK => ?s57) ?m57
                case s57 =>
                  skip
                  (first | (refine step_app_f (W1 := W1) (by rfl) (.tmp 40) (.tmp 50) (by rfl) (by rfl) (by rfl) VS y.1 ?_ ?_ ?_ ?_ (CE1.out _ ?_) HL1.out ?_; (focus (repeat (first | exact Kp.refl _ _ | apply Kp.drew | apply Kp.alloc))); (focus (first | exact heap_alloc_new W1 _ | exact alloc2_get W1 _ _ | exact alloc2_last W1 _ _)); (focus (first | exact SZ.out | exact Nat.le_succ_of_le SZ.out)); (focus (first | exact Nat.le_refl _ | exact Nat.le_succ _)); (focus (repeat (first | exact Kp.refl _ _ | apply Kp.drew | apply Kp.alloc))); intro P1 Q1 wA oA kA kkA hA; have a60 := kkA.get s6' (by simp); have a61 := kkA.get e2' (by simp); have a62 := kkA.get g1' (by simp); have a63 := kkA.get g3' (by simp); have a5 := kkA.get x1 (by simp); have a5j := a5.trans (by rw [HLJ.out] : _ = some (Value.slice A j C)); have na : w2.heap.size ≠ wA.heap.size := Nat.ne_of_lt (World.block_lt_of_cell? wA _ a5); have hdA : (wA.alloc (.cells #[] 5)).cell? ⟨w2.heap.size, 1, none⟩ = some (.slice A j C) := ((World.cell?_alloc_lt _ _ _ (World.block_lt_of_cell? wA _ a5)).trans a5).trans (by rw [HLJ.out]); have afz := (kkA.frozen (p := ⟨w2.heap.size, 1, none⟩) (heap_lt HXX.out) (by simp)).trans fz5) | (refine step_app_f (W1 := W1) (by rfl) (.tmp 52) (.tmp 62) (by rfl) (by rfl) (by rfl) VS y.2 ?_ ?_ ?_ ?_ (CE2.out _ ?_) HL2.out ?_; (focus (first | exact kkA | exact kkA.alloc _)); (focus (first | exact heap_alloc_new wA _ | exact kA.obj (alloc2_last W1 _ _) (by simp) | exact kA.obj (alloc2_get W1 _ _) (by simp))); (focus (first | exact SZ.out | exact Nat.le_succ_of_le SZ.out | exact Nat.le_trans SZ.out kkA.size)); (focus (first | exact Nat.le_refl _ | exact Nat.le_succ _ | exact kkA.size)); (focus (first | exact kkA | exact kkA.alloc _)); intro P2 Q2 wB oB kB kkB hB; have oA2 : Ob VS wB (.slice P1 y.1.length Q1) y.1 := (by first | exact oA.fresh kB | exact oA.apart kB hA (by simp) (by simp <;> omega)); have b60 := kkB.get s6' (by simp); have b61 := kkB.get e2' (by simp); have b62 := kkB.get g1' (by simp); have b63 := kkB.get g3' (by simp); have b5 := kkB.get x1 (by simp); have b5j := b5.trans (by rw [HLJ.out] : _ = some (Value.slice A j C)); have nb : w2.heap.size ≠ wB.heap.size := Nat.ne_of_lt (World.block_lt_of_cell? wB _ b5); have hdB : (wB.alloc (.cells #[.slice P1 y.1.length Q1, .slice P2 y.2.length Q2] 57)).cell? ⟨w2.heap.size, 1, none⟩ = some (.slice A j C) := ((World.cell?_alloc_lt _ _ _ (World.block_lt_of_cell? wB _ b5)).trans b5).trans (by rw [HLJ.out]); have bfz := (kkB.frozen (p := ⟨w2.heap.size, 1, none⟩) (heap_lt HXX.out) (by simp)).trans fz5) | (refine step_app_p (by rfl) (.tmp 39) (.tmp 65) pi_seals (by rfl) VS (row_kt HRWj.out (Kt.kp (Ts := [57]) (kkB.alloc (.cells #[.slice P1 y.1.length Q1, .slice P2 y.2.length Q2] 57))) (by decide)) (lit_sl wB _ _ _) (by rfl) (by rfl) HJL.out ?_ ?_; (focus (have := SZ.out; have := kkB.size; simp; omega)); intro A9 C9 w7 hrow9 hg9; have k7V := ((HK.out.trans kkB.nil).alloc (.cells #[.slice P1 y.1.length Q1, .slice P2 y.2.length Q2] 57)).grown hg9 (fun b hb => .inr (by (have := (row_block HRWj.out hb).1; omega))); have c60 := k7V.get V6.out (by simpa using nn1); have c61 := k7V.get V2.out (by simpa using nn2); have c62 := k7V.get VG1.out (by simpa using nn3); have c63 := k7V.get VG3.out (by simpa using nn3); have X7 := row_ktG (Ts := [54]) (row_kt HRWj.out (Kt.kp (Ts := [57]) (kkB.alloc (.cells #[.slice P1 y.1.length Q1, .slice P2 y.2.length Q2] 57))) (by decide)) hg9 (by decide) _ _ _ _ ((kkB.alloc (.cells #[.slice P1 y.1.length Q1, .slice P2 y.2.length Q2] 57)).obj HXX.out (by simp)) (by decide); have c5 : w7.cell? ⟨w2.heap.size, 1, none⟩ = some (.slice A j C) := (heap_cell X7 1).trans (by rw [← HLJ.out]; simp); have cfz := heap_free X7 1; clear X7) | fail)
                  refine hK.out _ _ ?_ (fun hHeld => ?_)
                  · (try dsimp only)
                    (first | with_reducible exact ⟨c60, c61, c62, c63, c5⟩ | with_reducible exact ⟨b60, b61, b62, b63, b5j⟩ | with_reducible exact ⟨a60, a61, a62, a63, a5j⟩ | go_keep)
                  clear hK K
                  refine wpAnyR_take (i := 26) (v := ?v59) rfl (by kernel_rfl) (by kernel_rfl) (by kernel_rfl) (by kernel_rfl) (fun _ _ _ h => h) (Or.inl ⟨by rfl, ?y59⟩) (by assumption) ?r59
                  case y59 => (intro w hSw; (try dsimp only at hSw); go_simp) <;> with_reducible rfl
                  (try simp only [Act.put, List.getElem_toArray, List.getElem_cons_succ, List.getElem_cons_zero, List.setIfInBounds_toArray, List.set_cons_zero, List.set_cons_succ])
                  refine wpAnyR_ready (rs := [27]) (by kernel_rfl) (by simp) ?_
                  refine AllReadyR.cons rfl (fun K hK => ?s60) ?m60
                  case s60 =>
                    skip
                    go_simp
                    refine hK.out _ _ ?_ (fun hHeld => ?_)
                    · (try dsimp only)
                      (first | with_reducible exact ⟨c60, c61, c62, c63, c5⟩ | with_reducible exact ⟨b60, b61, b62, b63, b5j⟩ | with_reducible exact ⟨a60, a61, a62, a63, a5j⟩ | go_keep)
                    clear hK K
                    refine wpAnyR_ready (rs := [28]) (by kernel_rfl) (by simp) ?_
                    refine AllReadyR.cons rfl (fun K hK => ?s62) ?m62
                    case s62 =>
                      skip
                      (first | (refine step_app_f (W1 := W1) (by rfl) (.tmp 40) (.tmp 50) (by rfl) (by rfl) (by rfl) VS y.1 ?_ ?_ ?_ ?_ (CE1.out _ ?_) HL1.out ?_; (focus (repeat (first | exact Kp.refl _ _ | apply Kp.drew | apply Kp.alloc))); (focus (first | exact heap_alloc_new W1 _ | exact alloc2_get W1 _ _ | exact alloc2_last W1 _ _)); (focus (first | exact SZ.out | exact Nat.le_succ_of_le SZ.out)); (focus (first | exact Nat.le_refl _ | exact Nat.le_succ _)); (focus (repeat (first | exact Kp.refl _ _ | apply Kp.drew | apply Kp.alloc))); intro P1 Q1 wA oA kA kkA hA; have a60 := kkA.get s6' (by simp); have a61 := kkA.get e2' (by simp); have a62 := kkA.get g1' (by simp); have a63 := kkA.get g3' (by simp); have a5 := kkA.get x1 (by simp); have a5j := a5.trans (by rw [HLJ.out] : _ = some (Value.slice A j C)); have na : w2.heap.size ≠ wA.heap.size := Nat.ne_of_lt (World.block_lt_of_cell? wA _ a5); have hdA : (wA.alloc (.cells #[] 5)).cell? ⟨w2.heap.size, 1, none⟩ = some (.slice A j C) := ((World.cell?_alloc_lt _ _ _ (World.block_lt_of_cell? wA _ a5)).trans a5).trans (by rw [HLJ.out]); have afz := (kkA.frozen (p := ⟨w2.heap.size, 1, none⟩) (heap_lt HXX.out) (by simp)).trans fz5) | (refine step_app_f (W1 := W1) (by rfl) (.tmp 52) (.tmp 62) (by rfl) (by rfl) (by rfl) VS y.2 ?_ ?_ ?_ ?_ (CE2.out _ ?_) HL2.out ?_; (focus (first | exact kkA | exact kkA.alloc _)); (focus (first | exact heap_alloc_new wA _ | exact kA.obj (alloc2_last W1 _ _) (by simp) | exact kA.obj (alloc2_get W1 _ _) (by simp))); (focus (first | exact SZ.out | exact Nat.le_succ_of_le SZ.out | exact Nat.le_trans SZ.out kkA.size)); (focus (first | exact Nat.le_refl _ | exact Nat.le_succ _ | exact kkA.size)); (focus (first | exact kkA | exact kkA.alloc _)); intro P2 Q2 wB oB kB kkB hB; have oA2 : Ob VS wB (.slice P1 y.1.length Q1) y.1 := (by first | exact oA.fresh kB | exact oA.apart kB hA (by simp) (by simp <;> omega)); have b60 := kkB.get s6' (by simp); have b61 := kkB.get e2' (by simp); have b62 := kkB.get g1' (by simp); have b63 := kkB.get g3' (by simp); have b5 := kkB.get x1 (by simp); have b5j := b5.trans (by rw [HLJ.out] : _ = some (Value.slice A j C)); have nb : w2.heap.size ≠ wB.heap.size := Nat.ne_of_lt (World.block_lt_of_cell? wB _ b5); have hdB : (wB.alloc (.cells #[.slice P1 y.1.length Q1, .slice P2 y.2.length Q2] 57)).cell? ⟨w2.heap.size, 1, none⟩ = some (.slice A j C) := ((World.cell?_alloc_lt _ _ _ (World.block_lt_of_cell? wB _ b5)).trans b5).trans (by rw [HLJ.out]); have bfz := (kkB.frozen (p := ⟨w2.heap.size, 1, none⟩) (heap_lt HXX.out) (by simp)).trans fz5) | (refine step_app_p (by rfl) (.tmp 39) (.tmp 65) pi_seals (by rfl) VS (row_kt HRWj.out (Kt.kp (Ts := [57]) (kkB.alloc (.cells #[.slice P1 y.1.length Q1, .slice P2 y.2.length Q2] 57))) (by decide)) (lit_sl wB _ _ _) (by rfl) (by rfl) HJL.out ?_ ?_; (focus (have := SZ.out; have := kkB.size; simp; omega)); intro A9 C9 w7 hrow9 hg9; have k7V := ((HK.out.trans kkB.nil).alloc (.cells #[.slice P1 y.1.length Q1, .slice P2 y.2.length Q2] 57)).grown hg9 (fun b hb => .inr (by (have := (row_block HRWj.out hb).1; omega))); have c60 := k7V.get V6.out (by simpa using nn1); have c61 := k7V.get V2.out (by simpa using nn2); have c62 := k7V.get VG1.out (by simpa using nn3); have c63 := k7V.get VG3.out (by simpa using nn3); have X7 := row_ktG (Ts := [54]) (row_kt HRWj.out (Kt.kp (Ts := [57]) (kkB.alloc (.cells #[.slice P1 y.1.length Q1, .slice P2 y.2.length Q2] 57))) (by decide)) hg9 (by decide) _ _ _ _ ((kkB.alloc (.cells #[.slice P1 y.1.length Q1, .slice P2 y.2.length Q2] 57)).obj HXX.out (by simp)) (by decide); have c5 : w7.cell? ⟨w2.heap.size, 1, none⟩ = some (.slice A j C) := (heap_cell X7 1).trans (by rw [← HLJ.out]; simp); have cfz := heap_free X7 1; clear X7) | fail)
                      refine hK.out _ _ ?_ (fun hHeld => ?_)
                      · (try dsimp only)
                        (first | with_reducible exact ⟨c60, c61, c62, c63, c5⟩ | with_reducible exact ⟨b60, b61, b62, b63, b5j⟩ | with_reducible exact ⟨a60, a61, a62, a63, a5j⟩ | go_keep)
                      clear hK K
                      refine wpAnyR_take (i := 29) (v := ?v64) rfl (by kernel_rfl) (by kernel_rfl) (by kernel_rfl) (by kernel_rfl) (fun _ _ _ h => h) (Or.inl ⟨by rfl, ?y64⟩) (by assumption) ?r64
                      case y64 => (intro w hSw; (try dsimp only at hSw); go_simp) <;> with_reducible rfl
                      (try simp only [Act.put, List.getElem_toArray, List.getElem_cons_succ, List.getElem_cons_zero, List.setIfInBounds_toArray, List.set_cons_zero, List.set_cons_succ])
                      refine wpAnyR_ready (rs := [30]) (by kernel_rfl) (by simp) ?_
                      refine AllReadyR.final rfl (fun K hK => ?_)
                      skip
                      go_simp
                      refine hK.out _ _ ?_
                      clear hK K
                      refine wpAnyR_done (by kernel_rfl) ?_ _
                      subst HVS
                      have hL9 := LpI.add HK.out HXX.out HRW.out HAL.out kkB oA2 oB (by rw [HLJ.out]; exact hrow9) (by rw [HLJ.out]; exact hg9)
                      rw [HLJ.out] at hL9
                      have HL := Lib.hid hL9
                      clear hL9
                      clear kkB kkA kA kB oA oB oA2 hA hB hrow9 hg9 a60 a61 a62 a63 b60 b61 b62 b63 c60 c61 c62 c63 k7V a5 b5 c5 afz bfz cfz na nb hdA hdB
                      go_wp2
                      go_roundw
                      case rel => exact ⟨j + 1, by omega, by go_num, A9, C9, Lib.hid HL.out.1, Lib.hid (by rw [HT2.out]; exact HL.out.2.1), Lib.hid (by rw [HT2.out]; exact HL.out.2.2)⟩
                      case measure => simp [intOf]; omega
                    exact AllReadyR.nil
                  exact AllReadyR.nil
                exact AllReadyR.nil
              exact AllReadyR.nil
            exact AllReadyR.nil
          exact AllReadyR.nil
        · have : j = x.2.length := by omega
          subst this
          rw [List.take_length] at HXX HSO x1
          have J11 := Lib.hid (HJ.out.kt (Kt.kp KA.out) (HJ.out.kp.trans KA.out))
          obtain ⟨A7, C7, h7, ⟨qs, hrow, hall⟩⟩ := J11.out.h7
          have B7 := Lib.hid h7
          have hl7 : (ss.take k).length = k := by rw [List.length_take]; omega
          have HL7 := Lib.hid hl7
          have hrow' := hrow
          rw [hl7] at hrow'
          have HRWk := Lib.hid hrow'
          have t6 : W1.cell? ⟨w1.heap.size, 6, none⟩ = some (.slice A7 (ss.take k).length C7) := heap_cell B7.out 6
          have tf6 := heap_free B7.out 6
          have OK := Lib.hid (((OKk.out.mono (base' := w.heap.size) KK.out.size).kp ((Kp.refl [] w2).alloc (.cells #[.slice Ak x.1.length Ck, .slice none 0 0] 54)) (by simp)).kpT HK.out (by intro b hb; simp at hb; subst hb; exact ⟨_, _, _, HX0.out, by decide⟩))
          have SX := Lib.hid (HSO.out.mono (base' := w.heap.size) (Nat.le_trans (Nat.le_trans KK.out.size K2.out.size) (by simp)))
          have HO9 := Lib.hid (row_kt hrow' (Kt.kp (Ts := [54]) ((Kp.refl [] W1).alloc (.cells #[.slice Ak x.1.length Ck, .slice A x.2.length C] 54))) (by decide))
          have HRW := Lib.hid hrow
          have HAL := Lib.hid hall
          have HAC := Lib.hid (show k ≤ 1099511627776 by have := HSL.out; omega)
          have KW1 := Lib.hid (show w.heap.size ≤ W1.heap.size from (KK.out.trans KA.out).size)
          have nb : w.heap.size + 1 ≠ w1.heap.size := by have := hz1.out; omega
          have HBX1 := Lib.hid (KA.out.obj HBX.out (by simp))
          clear h7 hrow hrow' hall hl7
          go_wp2_with (at_builtin; refine app_p rfl (.tmp 69) (.tmp 71) pi_steps rfl w.heap.size HO9.out (lit_sl W1 _ _ _) (by rfl) (by rfl) HAC.out (by have := KW1.out; simp; omega) ?_; intro A9 C9 w12 hrow9 hg9; have H9 := Lib.hid hrow9; have HG9 := Lib.hid hg9; have KT9 := Lib.hid ((Kt.kp (Ts := [5, 32, 27]) ((Kp.refl [] W1).alloc (.cells #[.slice Ak x.1.length Ck, .slice A x.2.length C] 54))).trans (row_ktG HO9.out HG9.out (by decide))); have B9 := Lib.hid (KT9.out _ _ _ _ B7.out (by decide)); have y6 : w12.cell? ⟨w1.heap.size, 6, none⟩ = some (.slice A7 k C7) := (heap_cell B9.out 6).trans (by show some (Value.slice A7 (ss.take k).length C7) = _; rw [HL7.out]); have g6 := heap_free B9.out 6; clear hrow9 hg9)
          go_roundw
          case rel =>
            have h2 := J11.out.add (W4 := w12.setCell ⟨w1.heap.size, 6, none⟩ (.slice A9 (k + 1) C9)) B7.out HRW.out HAL.out OK.out SX.out (by rw [HL7.out]; exact H9.out) (by rw [HL7.out]; exact HG9.out) nb (by have := hz1.out; omega) (by rw [HL7.out]; exact Kp.refl _ _)
            exact ⟨k + 1, by omega, by go_num, Lib.hid (by rw [HTK.out]; exact h2), Lib.hid (set_obj (KT9.out _ _ _ _ HBX1.out (by decide)) _ _ _ (by have := hz1.out; omega))⟩
          case measure => simp [intOf]; omega
    · have : k = ss.length := by omega
      subst this
      rw [List.take_length] at HJ
      obtain ⟨A5, C5, h7, hso⟩ := HJ.out.h7
      have B7 := Lib.hid h7
      have HSO := Lib.hid hso
      have Z5 := Lib.hid HJ.out.h2
      have hne : w.heap.size + 1 ≠ w1.heap.size := by have := hz1.out; omega
      have t0 : W0.cell? ⟨w.heap.size + 1, 0, none⟩ = some (.slice none 0 0) := heap_cell Z5.out 0
      have g0 := heap_free Z5.out 0
      have t1 : W0.cell? ⟨w.heap.size + 1, 1, none⟩ = some (.slice none 0 0) := heap_cell Z5.out 1
      have g1 := heap_free Z5.out 1
      have t2 : W0.cell? ⟨w.heap.size + 1, 2, none⟩ = some (.slice none 0 0) := heap_cell Z5.out 2
      have g2 := heap_free Z5.out 2
      have t3 : W0.cell? ⟨w.heap.size + 1, 3, none⟩ = some (.int .i64 0) := heap_cell Z5.out 3
      have g3 := heap_free Z5.out 3
      have t4 : W0.cell? ⟨w.heap.size + 1, 4, none⟩ = some (.slice none 0 0) := heap_cell Z5.out 4
      have g4 := heap_free Z5.out 4
      have t5 : W0.cell? ⟨w.heap.size + 1, 5, none⟩ = some (.slice none 0 0) := heap_cell Z5.out 5
      have g5 := heap_free Z5.out 5
      have t6 : W0.cell? ⟨w.heap.size + 1, 6, none⟩ = some (.slice none 0 0) := heap_cell Z5.out 6
      have g6 := heap_free Z5.out 6
      have u0 : W0.cell? ⟨w1.heap.size, 0, none⟩ = some (.slice A0 l.enc.length C0) := heap_cell B7.out 0
      have u1 : W0.cell? ⟨w1.heap.size, 1, none⟩ = some (.slice A1 l.sig.length C1) := heap_cell B7.out 1
      have u2 : W0.cell? ⟨w1.heap.size, 2, none⟩ = some (.slice A2 l.name.length C2) := heap_cell B7.out 2
      have u3 : W0.cell? ⟨w1.heap.size, 3, none⟩ = some (.int .i64 l.src) := heap_cell B7.out 3
      have u4 : W0.cell? ⟨w1.heap.size, 4, none⟩ = some (.slice A3 l.hash.length C3) := heap_cell B7.out 4
      have u5 : W0.cell? ⟨w1.heap.size, 5, none⟩ = some (.slice A4 l.sgn.length C4) := heap_cell B7.out 5
      have u6 : W0.cell? ⟨w1.heap.size, 6, none⟩ = some (.slice A5 ss.length C5) := heap_cell B7.out 6
      have K7 := set7_kp W0 (w.heap.size + 1) (.slice A0 l.enc.length C0) (.slice A1 l.sig.length C1) (.slice A2 l.name.length C2) (.int .i64 l.src) (.slice A3 l.hash.length C3) (.slice A4 l.sgn.length C4) (.slice A5 ss.length C5)
      have KT : Kt [5, 57, 54] W0 (set7 W0 (w.heap.size + 1) (.slice A0 l.enc.length C0) (.slice A1 l.sig.length C1) (.slice A2 l.name.length C2) (.int .i64 l.src) (.slice A3 l.hash.length C3) (.slice A4 l.sgn.length C4) (.slice A5 ss.length C5)) := Kt.one K7 Z5.out (by decide)
      have J0 := HJ.out
      have oo : ∀ {v xs}, Ob w.heap.size W0 v xs → Ob w.heap.size (set7 W0 (w.heap.size + 1) (.slice A0 l.enc.length C0) (.slice A1 l.sig.length C1) (.slice A2 l.name.length C2) (.int .i64 l.src) (.slice A3 l.hash.length C3) (.slice A4 l.sgn.length C4) (.slice A5 ss.length C5)) v xs := fun h => h.kt KT (by decide)
      clear h7 hso
      go_wp2
      refine bodyPost_ret (v := .agg #[.slice A0 l.enc.length C0, .slice A1 l.sig.length C1, .slice A2 l.name.length C2, .int .i64 l.src, .slice A3 l.hash.length C3, .slice A4 l.sgn.length C4, .slice A5 ss.length C5]) (by simp [results, Tryd.results5, go_sem, t0, t1, t2, t3, t4, t5, t6]) rfl
        ⟨_, rfl, ⟨A0, A1, A2, A3, A4, A5, C0, C1, C2, C3, C4, C5, rfl, oo J0.o0, oo J0.o1, oo J0.o2, oo J0.o3, oo J0.o4, HSO.out.kt KT (by decide) (by decide) (by decide)⟩, J0.kp.old K7 (by intro x hx; simp at hx; omega)⟩
end Go.Proofs.YtgmdcmkokdbeoaaDoor
