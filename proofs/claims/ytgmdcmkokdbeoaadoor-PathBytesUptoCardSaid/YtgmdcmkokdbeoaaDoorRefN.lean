/- The path of the reference: Bytes, PutPath. -/
import Derived.Test.YtgmdcmkokdbeoaaDoorRefM
set_option linter.unusedVariables false
set_option linter.unusedSimpArgs false
namespace Go.Proofs.YtgmdcmkokdbeoaaDoor
open Go.RowKit

set_option maxRecDepth 100000 in
set_option maxHeartbeats 4000000 in
theorem rBytes_any {w : World} {v : Value} {l : LeafD} {ss : List StepD} (h : PathV w v l ss) (hr : rightP l ss = true) :
    Calls Tryd.prog 19 #[v] w fun e w' => ∃ A C, e = .returned (.slice A (pathB l ss).length C) ∧ Kp [] w w' ∧ Ob w.heap.size w' (.slice A (pathB l ss).length C) (pathB l ss) := by
  have hb := h
  have hr' := hr
  simp only [rightP, Bool.and_eq_true, decide_eq_true_eq, Bool.not_eq_true'] at hr'
  obtain ⟨⟨⟨rl, -⟩, r6⟩, rb⟩ := hr'
  obtain ⟨A0, A1, A2, A3, A4, a, C0, C1, C2, C3, C4, c, rfl, hleaf, hsteps⟩ := h
  have K0 := Lib.hid ((Kp.refl [] w).alloc (.cells #[.slice A0 l.enc.length C0, .slice A1 l.sig.length C1, .slice A2 l.name.length C2, .int .i64 l.src, .slice A3 l.hash.length C3, .slice A4 l.sgn.length C4, .slice a ss.length c] 27))
  have HZ := Lib.hid (heap_alloc_new w (.cells #[.slice A0 l.enc.length C0, .slice A1 l.sig.length C1, .slice A2 l.name.length C2, .int .i64 l.src, .slice A3 l.hash.length C3, .slice A4 l.sgn.length C4, .slice a ss.length c] 27))
  have hlB : (leafB l).length ≤ 300 := leafB_le l rl
  have hpB : (putLeafB l).length ≤ 400 := by
    have := joinV_le [l.sgn] 64 (by intro x hx; simp at hx; subst hx; have := rl.2.2.1; omega)
    simp only [List.length_cons, List.length_nil] at this
    unfold putLeafB
    rw [List.length_append]; omega
  obtain ⟨_, _, q1, sn, sm, sc⟩ := hsteps.facts
  injection q1 with q1a q1b q1c
  subst q1a q1c
  have HP0 := Lib.hid (fun w2 (k : Kp [] w w2) => rleafB_any (hleaf.kp k) rl)
  clear hleaf hsteps hb hr
  generalize l.enc.length = m0, l.sig.length = m1, l.name.length = m2, l.hash.length = m3, l.sgn.length = m4, l.src = z at *
  have SC := Lib.hid sc
  have RB := Lib.hid rb
  have R6 := Lib.hid r6
  clear sc rb rl q1b
  go_enter Tryd.func19, Tryd.ntmps19
  go_wp2
  go_loopw [3, 4] (fun o i wr => ∃ k : Nat, k ≤ ss.length ∧ i = .int .i64 k ∧ ∃ A C, o = .slice A (stepsB (ss.take k)).length C ∧ Kp [] (w.alloc (.cells #[.slice A0 m0 C0, .slice A1 m1 C1, .slice A2 m2 C2, .int .i64 z, .slice A3 m3 C3, .slice A4 m4 C4, .slice a ss.length c] 27)) wr ∧ Ob (w.heap.size + 1) wr (.slice A (stepsB (ss.take k)).length C) (stepsB (ss.take k))) (fun _ i _ => ss.length - (intOf i).toNat)
  case atStart => exact ⟨0, Nat.zero_le _, rfl, none, 0, rfl, Kp.refl _ _, Ob.nil _ _⟩
  case round =>
    obtain ⟨k, hk, rfl, A, C, rfl, hK, ho⟩ := hrel
    obtain ⟨W0, rfl⟩ : ∃ W0, W0 = wr := ⟨_, rfl⟩
    have HZr := Lib.hid (hK.obj HZ.out (by simp))
    have s6 := heap_cell HZr.out 6
    simp at s6
    have KK := K0.out.trans hK
    by_cases hlt : k < ss.length
    · obtain ⟨g, o, rfl, hc⟩ := SC.out (by omega)
      obtain ⟨x, hx⟩ := get_lt hlt
      obtain ⟨B1, D1, B2, D2, d1, d2, b1, b2⟩ := hc k x hx
      have e1 := KK.get d1 (by simp)
      have e2 := KK.get d2 (by simp)
      have hsb := stepBad_no (any_mem RB.out (List.mem_of_getElem? hx))
      obtain ⟨xl, xn, xb⟩ := hsb
      have XL := Lib.hid xl
      have XB := Lib.hid xb
      have hT := Lib.hid (stepsB_take ss k x hx)
      have hso := stepsB_le (any_take RB.out k) (by rw [List.length_take]; have := R6.out; omega)
      have hsl := sealsB_le xb xn
      have b1' := Lib.hid (b1.kp KK)
      obtain ⟨_, _, q1, tn, tm, tc⟩ := b2.facts
      injection q1 with q1a q1b q1c
      subst q1a q1c
      have TC := Lib.hid tc
      clear hc b1 b2 q1b xl xb tc hx
      generalize stepsB (ss.take k) = yo at *
      go_wp2
      go_loopw [5, 6] (fun o2 i2 wq => ∃ j : Nat, j ≤ x.2.length ∧ i2 = .int .i64 j ∧ ∃ A' C', o2 = .slice A' (sealsB (x.2.take j)).length C' ∧ Kp [] W0 wq ∧ Ob W0.heap.size wq (.slice A' (sealsB (x.2.take j)).length C') (sealsB (x.2.take j))) (fun _ i _ => x.2.length - (intOf i).toNat)
      case atStart => exact ⟨0, Nat.zero_le _, rfl, none, 0, rfl, Kp.refl _ _, Ob.nil _ _⟩
      case round =>
        obtain ⟨j, hj, rfl, A', C', rfl, hQ, hq⟩ := hrel
        obtain ⟨W1, rfl⟩ : ∃ W1, W1 = wr := ⟨_, rfl⟩
        have QQ := KK.trans hQ
        have s6' := hQ.get s6 (by simp)
        have e2' := QQ.get d2 (by simp)
        have e1' := QQ.get d1 (by simp)
        by_cases hjt : j < x.2.length
        · obtain ⟨g2, o2, rfl, hc2⟩ := TC.out (by omega)
          obtain ⟨y, hy⟩ := get_lt hjt
          obtain ⟨E1, F1, E2, F2, f1, f2, c1, c2⟩ := hc2 j y hy
          have g1 := QQ.get f1 (by simp)
          have g3 := QQ.get f2 (by simp)
          have hyb := sealBad_no (any_mem XB.out (List.mem_of_getElem? hy))
          have hT2 := Lib.hid (sealsB_take x.2 j y hy)
          have hs2 := sealsB_le (any_take XB.out j) (by rw [List.length_take]; omega)
          generalize sealsB (x.2.take j) = yi at *
          have C1 := Lib.hid (c1.kp QQ)
          have C2 := Lib.hid (c2.kp QQ)
          have hJ := joinV2_le y.1 y.2
          obtain ⟨hy1, hy2⟩ := hyb
          have HJ := Lib.hid (show ∀ W' g', Kp [] W1 W' → W'.heap[g']? = some (.cells #[.slice E1 y.1.length F1, .slice E2 y.2.length F2] 22 (0, 0)) → Calls Tryd.prog 43 #[.slice (some ⟨g', 0, none⟩) 2 2] W' fun e w' => ∃ A C, e = .returned (.slice A (joinV [y.1, y.2]).length C) ∧ Kp [] W' w' ∧ Kp [] W1 w' ∧ Ob W1.heap.size w' (.slice A (joinV [y.1, y.2]).length C) (joinV [y.1, y.2]) from
            fun W' g' k hg => (rjoin_any (Bss.blk2 hg (C1.out.kp k) (C2.out.kp k)) (by intro x hx; simp at hx; rcases hx with rfl | rfl <;> omega) (by simp)).mono fun _ _ ⟨A, C, he, k1, o1⟩ => ⟨A, C, he, k1, k.trans k1, o1.mono k.size⟩)
          have HL := Lib.hid (show yi.length + (joinV [y.1, y.2]).length ≤ 70368744177664 by omega)
          have HQs := Lib.hid hQ.size
          have i1 : (0 : Int) ≤ (k : Int) := by omega
          have i2 : (k : Int) < (ss.length : Int) := by omega
          have i3 : (0 : Int) ≤ (j : Int) := by omega
          have i4 : (j : Int) < (x.2.length : Int) := by omega
          have F10 := f1
          have F20 := f2
          clear hc2 f1 f2 c1 c2 hy1 hy2 hy hJ hs2
          go_wp2
          go_region_held3 (fun w' => w'.cell? ⟨w.heap.size, 6, none⟩ = some (.slice (some ⟨g, o, none⟩) ss.length c) ∧ w'.cell? ⟨g, o + k * 2 + 1, none⟩ = some (.slice (some ⟨g2, o2, none⟩) x.2.length D2) ∧ w'.cell? ⟨g2, o2 + j * 2, none⟩ = some (.slice E1 y.1.length F1) ∧ w'.cell? ⟨g2, o2 + j * 2 + 1, none⟩ = some (.slice E2 y.2.length F2))
            (first | exact ⟨p0, p1, p2, p3⟩ | exact ⟨x0, x1, x2, x3⟩ | go_keep)
            (first | (go_at_call 43; (with_reducible refine (HJ.out _ _ ?_ ?_).mono ?_); (focus (repeat (first | exact Kp.refl _ _ | apply Kp.drew | apply Kp.alloc))); (focus (exact heap_alloc_new W1 _)); rintro en w2 ⟨J1, J2, rfl, k2, kk, o3⟩; have x0 := kk.get s6' (by simp); have x1 := kk.get e2' (by simp); have x2 := kk.get g1 (by simp); have x3 := kk.get g3 (by simp)) | (refine step_app_c (by rfl) _ _ (by rfl) (.slice A' yi.length C') (by rfl) (by rfl) W0.heap.size yi (joinV [y.1, y.2]) ?_ o3.bs HL.out ?_ ?_; (focus (exact hq.kp kk (by simp))); (focus (exact Nat.le_trans HQs.out kk.size)); intro Aq Cq w3 oq hg; have kw : Kp [] W0 w3 := (hQ.trans kk).grown hg (fun b hb => .inr (hq.lt b hb).1); have p0 := kw.get s6 (by simp); have p1 := kw.get e2 (by simp); have p2 := (KK.trans kw).get F10 (by simp); have p3 := (KK.trans kw).get F20 (by simp)) | fail)
          all_goals clear x0 x1 x2 x3 o3 hg p0 p1 p2 p3
          all_goals go_wp2
          go_roundw
          case rel => exact ⟨j + 1, by omega, by go_num, Aq, Cq, by rw [hT2.out]; simp, kw, by rw [hT2.out]; exact oq⟩
          case measure => simp [intOf]; omega
        · have : j = x.2.length := by omega
          subst this
          rw [List.take_length] at hq ⊢
          have HV := Lib.hid (rjoin_any (Bss.blk2 (heap_alloc_new W1 (.cells #[.slice B1 x.1.length D1, .slice A' (sealsB x.2).length C'] 22)) (b1'.out.kp (hQ.alloc _)) (hq.bs.kp ((Kp.refl [] W1).alloc _))) (by intro z hz; simp at hz; have := XL.out; rcases hz with rfl | rfl <;> omega) (by simp))
          have hJ := joinV2_le x.1 (sealsB x.2)
          have HL := Lib.hid (show yo.length + (joinV [x.1, sealsB x.2]).length ≤ 70368744177664 by have := XL.out; omega)
          have KA := Lib.hid ((Kp.refl [] W1).alloc (.cells #[.slice B1 x.1.length D1, .slice A' (sealsB x.2).length C'] 22))
          have HO := Lib.hid ho
          generalize sealsB x.2 = yi at *
          clear hJ ho
          go_wp2_with (first | (go_at_call 43; refine HV.out.mono ?_; rintro en w2 ⟨A2, C2, rfl, k2, o2⟩; have k2' := KA.out.trans k2) | (at_builtin; refine app_b rfl (.tmp 49) (.tmp 58) rfl (w.heap.size + 1) (HO.out.kp (hQ.trans k2') (by simp)) o2.bs rfl rfl HL.out (by have := (hK.trans (hQ.trans k2')).size; simp at this; omega) ?_; intro v3 w3 o3 g3 _; have k3 := (hK.trans (hQ.trans k2')).grown g3 (fun b hb => .inr (by have := (HO.out.lt b hb).1; simp; omega))))
          go_roundw
          case rel =>
            rw [← hT.out] at o3
            obtain ⟨A3, C3, hv3⟩ := o3.shape
            exact ⟨k + 1, by omega, by go_num, A3, C3, hv3, k3, hv3 ▸ o3⟩
          case measure => simp [intOf]; omega
    · have : k = ss.length := by omega
      subst this
      rw [List.take_length] at ho ⊢
      have hso := stepsB_le RB.out R6.out
      have s0 := heap_cell HZr.out 0
      have s1 := heap_cell HZr.out 1
      have s2 := heap_cell HZr.out 2
      have s3 := heap_cell HZr.out 3
      have s4 := heap_cell HZr.out 4
      have s5 := heap_cell HZr.out 5
      simp at s0 s1 s2 s3 s4 s5
      have hP := HP0.out W0 KK
      have HE := Lib.hid (show pathB l ss = joinV [putLeafB l, stepsB ss] from rfl)
      have HO := Lib.hid ho
      have HKK := Lib.hid KK
      clear ho
      generalize stepsB ss = yo at *
      generalize putLeafB l = yl at *
      go_wp2_with (first | (go_at_call 44; refine hP.mono ?_; rintro en w2 ⟨A2, C2, rfl, k2, o2⟩) | (go_at_call 43; refine (rjoin_any (Bss.blk2 (heap_alloc_new w2 _) (o2.bs.kp ((Kp.refl [] w2).alloc _)) (HO.out.bs.kp (k2.alloc _))) (by intro z hz; simp at hz; rcases hz with rfl | rfl <;> omega) (by simp)).mono ?_; rintro en w3 ⟨A3, C3, rfl, k3, o3⟩))
      go_ret
      rw [← HE.out] at o3 ⊢
      have k4 := (HKK.out.trans k2).alloc (.cells #[.slice A2 yl.length C2, .slice A yo.length C] 22)
      exact ⟨A3, C3, rfl, k4.trans k3, o3.mono k4.size⟩

set_option maxRecDepth 100000 in
set_option maxHeartbeats 1000000 in
theorem rputPath_no {w : World} {v : Value} {l : LeafD} {ss : List StepD} (h : PathV w v l ss) (hr : rightP l ss = false) : Calls Tryd.prog 7 #[v] w fun e w' => e = .returned (.tuple #[.slice none 0 0, .int .i64 1]) ∧ Kp [] w w' := by
  have hb := h
  obtain ⟨A0, A1, A2, A3, A4, a, C0, C1, C2, C3, C4, c, rfl, _, _⟩ := h
  have K0 := Lib.hid ((Kp.refl [] w).alloc (.cells #[.slice A0 l.enc.length C0, .slice A1 l.sig.length C1, .slice A2 l.name.length C2, .int .i64 l.src, .slice A3 l.hash.length C3, .slice A4 l.sgn.length C4, .slice a ss.length c] 27))
  have HZ := Lib.hid (heap_alloc_new w (.cells #[.slice A0 l.enc.length C0, .slice A1 l.sig.length C1, .slice A2 l.name.length C2, .int .i64 l.src, .slice A3 l.hash.length C3, .slice A4 l.sgn.length C4, .slice a ss.length c] 27))
  have hR := rRight_any (hb.kp K0.out)
  rw [hr] at hR
  clear hb hr
  generalize l.enc.length = m0, l.sig.length = m1, l.name.length = m2, l.hash.length = m3, l.sgn.length = m4, l.src = z, ss.length = n at *
  go_enter Tryd.func7, Tryd.ntmps7
  go_wp2_with (go_at_call 18; refine hR.mono ?_; rintro en w1 ⟨rfl, k1⟩)
  go_ret2
  exact ⟨rfl, K0.out.trans k1⟩
set_option maxRecDepth 100000 in
set_option maxHeartbeats 1000000 in
theorem rputPath_ok {w : World} {v : Value} {l : LeafD} {ss : List StepD} (h : PathV w v l ss) (hr : rightP l ss = true) : Calls Tryd.prog 7 #[v] w (OkPost w (pathB l ss)) := by
  have hb := h
  obtain ⟨A0, A1, A2, A3, A4, a, C0, C1, C2, C3, C4, c, rfl, _, _⟩ := h
  have K0 := Lib.hid ((Kp.refl [] w).alloc (.cells #[.slice A0 l.enc.length C0, .slice A1 l.sig.length C1, .slice A2 l.name.length C2, .int .i64 l.src, .slice A3 l.hash.length C3, .slice A4 l.sgn.length C4, .slice a ss.length c] 27))
  have HZ := Lib.hid (heap_alloc_new w (.cells #[.slice A0 l.enc.length C0, .slice A1 l.sig.length C1, .slice A2 l.name.length C2, .int .i64 l.src, .slice A3 l.hash.length C3, .slice A4 l.sgn.length C4, .slice a ss.length c] 27))
  have hR := rRight_any (hb.kp K0.out)
  rw [hr] at hR
  have HBy := Lib.hid (fun w2 (k : Kp [] w w2) => rBytes_any (hb.kp k) hr)
  clear hb hr
  generalize l.enc.length = m0, l.sig.length = m1, l.name.length = m2, l.hash.length = m3, l.sgn.length = m4, l.src = z, ss.length = n at *
  go_enter Tryd.func7, Tryd.ntmps7
  go_wp2_with (first | (go_at_call 18; refine hR.mono ?_; rintro en w1 ⟨rfl, k1⟩; have HZ1 := Lib.hid (k1.obj HZ.out (by simp)); have K1 := Lib.hid (K0.out.trans k1); have s0 := heap_cell HZ1.out 0; have s1 := heap_cell HZ1.out 1; have s2 := heap_cell HZ1.out 2; have s3 := heap_cell HZ1.out 3; have s4 := heap_cell HZ1.out 4; have s5 := heap_cell HZ1.out 5; have s6 := heap_cell HZ1.out 6; simp at s0 s1 s2 s3 s4 s5 s6) | (go_at_call 19; refine (HBy.out _ K1.out).mono ?_; rintro en w2 ⟨A9, C9, rfl, k2, o2⟩))
  go_ret2
  exact ⟨A9, C9, rfl, K1.out.trans k2, o2.mono K1.out.size⟩
theorem rputPath_any {w : World} {v : Value} {l : LeafD} {ss : List StepD} (h : PathV w v l ss) : Calls Tryd.prog 7 #[v] w (PutPathPost w l ss) := by
  unfold PutPathPost
  cases hr : rightP l ss
  · simp only [Bool.false_eq_true, if_false]; exact rputPath_no h hr
  · simp only [if_true]; exact rputPath_ok h hr
end Go.Proofs.YtgmdcmkokdbeoaaDoor
