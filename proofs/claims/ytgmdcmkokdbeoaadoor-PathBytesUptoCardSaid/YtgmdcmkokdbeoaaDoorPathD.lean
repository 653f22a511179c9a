/- PutPath. -/
import Derived.Test.YtgmdcmkokdbeoaaDoorPathC
set_option linter.unusedVariables false
namespace Go.Proofs.YtgmdcmkokdbeoaaDoor
open Go.RowKit

def sealsB (ss : List SealD) : List UInt8 := (ss.map fun s => joinV [s.1, s.2]).flatten
def stepsB (ss : List StepD) : List UInt8 := (ss.map fun s => joinV [s.1, sealsB s.2]).flatten
def pathB (l : LeafD) (ss : List StepD) : List UInt8 := joinV [putLeafB l, stepsB ss]
theorem flat_take {α : Type} (f : α → List UInt8) (ss : List α) (k : Nat) (x : α) (h : ss[k]? = some x) : ((ss.take (k + 1)).map f).flatten = ((ss.take k).map f).flatten ++ f x := by
  rw [List.take_add_one, h]; simp
theorem sealsB_take (ss : List SealD) (k : Nat) (x : SealD) (h : ss[k]? = some x) : sealsB (ss.take (k + 1)) = sealsB (ss.take k) ++ joinV [x.1, x.2] := flat_take _ ss k x h
theorem stepsB_take (ss : List StepD) (k : Nat) (x : StepD) (h : ss[k]? = some x) : stepsB (ss.take (k + 1)) = stepsB (ss.take k) ++ joinV [x.1, sealsB x.2] := flat_take _ ss k x h
theorem joinV2_le (a b : List UInt8) : (joinV [a, b]).length ≤ a.length + b.length + 8 := by
  have h1 := lenB_length a.length
  have h2 := lenB_length b.length
  simp only [joinV, vecB, List.map_cons, List.map_nil, List.flatten_cons, List.flatten_nil, List.length_append, List.append_nil]
  omega
theorem flat_le {α : Type} (f : α → List UInt8) (m : Nat) (ss : List α) (h : ∀ x ∈ ss, (f x).length ≤ m) : ((ss.map f).flatten).length ≤ ss.length * m := by
  induction ss with
  | nil => exact Nat.zero_le _
  | cons x r ih =>
    have h1 := ih (fun y hy => h y (List.mem_cons_of_mem _ hy))
    have h2 := h x (List.mem_cons_self ..)
    simp only [List.map_cons, List.flatten_cons, List.length_append, List.length_cons]
    rw [Nat.add_mul]; omega
theorem sealBad_no {s : SealD} (h : sealBad s = false) : s.1.length = 32 ∧ s.2.length ≤ 100 := by simpa [sealBad] using h
theorem sealsB_le {ss : List SealD} (h : ss.any sealBad = false) (hn : ss.length ≤ 64) : (sealsB ss).length ≤ 8960 := by
  have := flat_le (fun s : SealD => joinV [s.1, s.2]) 140 ss (fun x hx => by
    have h1 := sealBad_no (s := x) (by
      cases hb : sealBad x with
      | false => rfl
      | true => rw [List.any_eq_true.2 ⟨x, hx, hb⟩] at h; cases h)
    have := joinV2_le x.1 x.2
    omega)
  unfold sealsB; omega
theorem stepBad_no {s : StepD} (h : stepBad s = false) : s.1.length = 32 ∧ s.2.length ≤ 64 ∧ s.2.any sealBad = false := by
  simp only [stepBad, Bool.or_eq_false_iff, Bool.not_eq_false', Bool.and_eq_true, decide_eq_true_eq] at h
  exact ⟨h.1.1, h.1.2, h.2⟩
theorem any_mem {α : Type} {p : α → Bool} {ss : List α} (h : ss.any p = false) {x : α} (hx : x ∈ ss) : p x = false := by
  cases hb : p x with
  | false => rfl
  | true => rw [List.any_eq_true.2 ⟨x, hx, hb⟩] at h; cases h
theorem stepsB_le {ss : List StepD} (h : ss.any stepBad = false) (hn : ss.length ≤ 6) : (stepsB ss).length ≤ 54000 := by
  have := flat_le (fun s : StepD => joinV [s.1, sealsB s.2]) 9000 ss (fun x hx => by
    obtain ⟨h1, h2, h3⟩ := stepBad_no (any_mem h hx)
    have h4 := sealsB_le h3 h2
    have := joinV2_le x.1 (sealsB x.2)
    omega)
  unfold stepsB; omega
theorem any_take {α : Type} {p : α → Bool} {ss : List α} (h : ss.any p = false) (k : Nat) : (ss.take k).any p = false := by
  cases hb : (ss.take k).any p with
  | false => rfl
  | true =>
    obtain ⟨x, hx, hp⟩ := List.any_eq_true.1 hb
    rw [any_mem h (List.mem_of_mem_take hx)] at hp; cases hp

/-- What PutPath hands back. -/
def PutPathPost (w : World) (l : LeafD) (ss : List StepD) (e : Ending) (w' : World) : Prop :=
  if rightP l ss then OkPost w (pathB l ss) e w' else e = .returned (.tuple #[.slice none 0 0, .int .i64 1]) ∧ Kp [] w w'

set_option maxRecDepth 100000 in
set_option maxHeartbeats 1000000 in
theorem putPath_no {w : World} {v : Value} {l : LeafD} {ss : List StepD} (h : PathV w v l ss) (hr : rightP l ss = false) :
    Calls Tryd.prog 6 #[v] w fun e w' => e = .returned (.tuple #[.slice none 0 0, .int .i64 1]) ∧ Kp [] w w' := by
  have hb := h
  obtain ⟨A0, A1, A2, A3, A4, a, C0, C1, C2, C3, C4, c, rfl, _, _⟩ := h
  have K0 := Lib.hid ((Kp.refl [] w).alloc (.cells #[.slice A0 l.enc.length C0, .slice A1 l.sig.length C1, .slice A2 l.name.length C2, .int .i64 l.src, .slice A3 l.hash.length C3, .slice A4 l.sgn.length C4, .slice a ss.length c] 32))
  have hR := path_right (hb.kp K0.out)
  rw [hr] at hR
  clear hb hr
  generalize l.enc.length = m0, l.sig.length = m1, l.name.length = m2, l.hash.length = m3, l.sgn.length = m4, l.src = z, ss.length = n at *
  go_enter Tryd.func6, Tryd.ntmps6
  go_wp2_with (go_at_call 15; refine hR.mono ?_; rintro en w1 ⟨rfl, k1⟩)
  go_ret2
  exact ⟨rfl, K0.out.trans k1⟩

set_option maxRecDepth 100000 in
set_option maxHeartbeats 4000000 in
theorem putPath_ok {w : World} {v : Value} {l : LeafD} {ss : List StepD} (h : PathV w v l ss) (hr : rightP l ss = true) :
    Calls Tryd.prog 6 #[v] w (OkPost w (pathB l ss)) := by
  have hb := h
  have hr' := hr
  simp only [rightP, Bool.and_eq_true, decide_eq_true_eq, Bool.not_eq_true'] at hr'
  obtain ⟨⟨⟨rl, -⟩, r6⟩, rb⟩ := hr'
  obtain ⟨A0, A1, A2, A3, A4, a, C0, C1, C2, C3, C4, c, rfl, hleaf, hsteps⟩ := h
  have K0 := Lib.hid ((Kp.refl [] w).alloc (.cells #[.slice A0 l.enc.length C0, .slice A1 l.sig.length C1, .slice A2 l.name.length C2, .int .i64 l.src, .slice A3 l.hash.length C3, .slice A4 l.sgn.length C4, .slice a ss.length c] 32))
  have HZ := Lib.hid (heap_alloc_new w (.cells #[.slice A0 l.enc.length C0, .slice A1 l.sig.length C1, .slice A2 l.name.length C2, .int .i64 l.src, .slice A3 l.hash.length C3, .slice A4 l.sgn.length C4, .slice a ss.length c] 32))
  have hR := path_right (hb.kp K0.out)
  rw [hr] at hR
  have HL := Lib.hid hleaf
  have HS := Lib.hid (hsteps)
  have hlB : (leafB l).length ≤ 300 := leafB_le l rl
  have hpB : (putLeafB l).length ≤ 400 := by
    have := joinV_le [l.sgn] 64 (by intro x hx; simp at hx; subst hx; have := rl.2.2.1; omega)
    simp only [List.length_cons, List.length_nil] at this
    unfold putLeafB
    rw [List.length_append]; omega
  obtain ⟨_, _, q1, sn, sm, sc⟩ := hsteps.facts
  injection q1 with q1a q1b q1c
  subst q1a q1c
  have hP0 := fun w2 (k : Kp [] w w2) => putLeaf_any (hleaf.kp k)
  unfold PutLeafPost at hP0
  simp only [if_pos rl] at hP0
  clear hleaf hsteps hb hr
  generalize l.enc.length = m0, l.sig.length = m1, l.name.length = m2, l.hash.length = m3, l.sgn.length = m4, l.src = z at *
  have HP0 := Lib.hid hP0
  have SC := Lib.hid sc
  have RB := Lib.hid rb
  clear hP0 sc rb rl
  go_enter Tryd.func6, Tryd.ntmps6
  go_wp2_with (go_at_call 15; refine hR.mono ?_; rintro en w1 ⟨rfl, k1⟩; have HZ1 := Lib.hid (k1.obj HZ.out (by simp)); have s6 := heap_cell HZ1.out 6; simp at s6)
  have K1 := K0.out.trans k1
  go_loopw [4, 18] (fun o i wr => ∃ k : Nat, k ≤ ss.length ∧ i = .int .i64 k ∧ ∃ A C, o = .slice A (stepsB (ss.take k)).length C ∧ Kp [] w1 wr ∧ Ob w1.heap.size wr (.slice A (stepsB (ss.take k)).length C) (stepsB (ss.take k))) (fun _ i _ => ss.length - (intOf i).toNat)
  case atStart => exact ⟨0, Nat.zero_le _, rfl, none, 0, rfl, Kp.refl _ _, Ob.nil _ _⟩
  case round =>
    obtain ⟨k, hk, rfl, A, C, rfl, hK, ho⟩ := hrel
    obtain ⟨W0, rfl⟩ : ∃ W0, W0 = wr := ⟨_, rfl⟩
    by_cases hlt : k < ss.length
    · obtain ⟨g, o, rfl, hc⟩ := SC.out (by omega)
      obtain ⟨x, hx⟩ := get_lt hlt
      obtain ⟨B1, D1, B2, D2, d1, d2, b1, b2⟩ := hc k x hx
      have KK := K1.trans hK
      have e1 := KK.get d1 (by simp)
      have e2 := KK.get d2 (by simp)
      have hsb := stepBad_no (any_mem RB.out (List.mem_of_getElem? hx))
      obtain ⟨xl, xn, xb⟩ := hsb
      have XL := Lib.hid xl
      have XB := Lib.hid xb
      have hT := Lib.hid (stepsB_take ss k x hx)
      have hso := stepsB_le (any_take RB.out k) (by rw [List.length_take]; omega)
      have hsl := sealsB_le xb xn
      have b1' := Lib.hid (b1.kp KK)
      have b2' := Lib.hid (b2.kp KK)
      obtain ⟨_, _, q1, tn, tm, tc⟩ := b2'.out.facts
      injection q1 with q1a q1b q1c
      subst q1a q1c
      clear hc d1 d2 b1 b2 q1b xl xb
      generalize stepsB (ss.take k) = yo at *
      have HY := Lib.hid (heap_alloc_new W0 (.cells #[.slice B1 x.1.length D1, .slice B2 x.2.length D2] 54))
      have KY := Lib.hid ((Kp.refl [] W0).alloc (.cells #[.slice B1 x.1.length D1, .slice B2 x.2.length D2] 54))
      go_wp2
      go_loopw [7, 25] (fun o2 i2 wq => ∃ j : Nat, j ≤ x.2.length ∧ i2 = .int .i64 j ∧ ∃ A' C', o2 = .slice A' (sealsB (x.2.take j)).length C' ∧ Kp [] (W0.alloc (.cells #[.slice B1 x.1.length D1, .slice B2 x.2.length D2] 54)) wq ∧ Ob (W0.heap.size + 1) wq (.slice A' (sealsB (x.2.take j)).length C') (sealsB (x.2.take j))) (fun _ i _ => x.2.length - (intOf i).toNat)
      case atStart => exact ⟨0, Nat.zero_le _, rfl, none, 0, rfl, Kp.refl _ _, Ob.nil _ _⟩
      case round =>
        obtain ⟨j, hj, rfl, A', C', rfl, hQ, hq⟩ := hrel
        by_cases hjt : j < x.2.length
        · obtain ⟨g2, o2, rfl, hc2⟩ := tc (by omega)
          obtain ⟨y, hy⟩ := get_lt hjt
          obtain ⟨E1, F1, E2, F2, f1, f2, c1, c2⟩ := hc2 j y hy
          have QQ := KY.out.trans hQ
          have g1 := QQ.get f1 (by simp)
          have g3 := QQ.get f2 (by simp)
          have hyb := sealBad_no (any_mem XB.out (List.mem_of_getElem? hy))
          have hT2 := Lib.hid (sealsB_take x.2 j y hy)
          have hs2 := sealsB_le (any_take XB.out j) (by rw [List.length_take]; omega)
          generalize sealsB (x.2.take j) = yi at *
          have C1 := Lib.hid (c1.kp QQ)
          have C2 := Lib.hid (c2.kp QQ)
          have hJ := joinV2_le y.1 y.2
          have hqs := hQ.size
          have K9 := Lib.hid ((Kp.refl [] wr).alloc (.cells #[.slice E1 y.1.length F1, .slice E2 y.2.length F2] 57))
          have hV := pvec_any (Bss.lit2 (W := wr.alloc (.cells #[.slice E1 y.1.length F1, .slice E2 y.2.length F2] 57)) (wr.heap.size + 1) (by simp) 22 (C1.out.kp K9.out) (C2.out.kp K9.out)) (by intro x hx; simp at hx; rcases hx with rfl | rfl <;> omega) (by simp)
          have HV := Lib.hid hV
          have K10 := Lib.hid (K9.out.alloc (.cells #[.slice E1 y.1.length F1, .slice E2 y.2.length F2] 22))
          obtain ⟨hy1, hy2⟩ := hyb
          have HY1 := Lib.hid hy1
          clear hc2 tc f1 f2 c1 c2 hV hy1
          go_wp2_with (first | (go_at_call 16; refine HV.out.mono ?_; rintro en w2 ⟨A2, C2, rfl, k2, o2⟩) | (at_builtin; refine app_b rfl (.tmp 29) (.tmp 35) rfl (W0.heap.size + 1) (hq.kp (K10.out.trans k2) (by simp)) o2.bs rfl rfl (by have := HY1.out; omega) (by have := (K10.out.trans k2).size; simp at hqs; omega) ?_; intro v3 w3 o3 g3 _; have k3 := (hQ.trans (K10.out.trans k2)).grown g3 (fun b hb => .inr (by have := (hq.lt b hb).1; simp; omega))))
          go_roundw
          case rel =>
            rw [← hT2.out] at o3
            obtain ⟨A3, C3, hv3⟩ := o3.shape
            exact ⟨j + 1, by omega, by go_num, A3, C3, hv3, k3, hv3 ▸ o3⟩
          case measure => simp [intOf]; omega
        · have : j = x.2.length := by omega
          subst this
          rw [List.take_length] at hq ⊢
          have HYr := Lib.hid (hQ.obj HY.out (by simp))
          have y0 := heap_cell HYr.out 0
          simp at y0
          have QQ := KY.out.trans hQ
          have K11 := Lib.hid ((Kp.refl [] wr).alloc (.cells #[.slice B1 x.1.length D1, .slice A' (sealsB x.2).length C'] 22))
          have hJ := joinV2_le x.1 (sealsB x.2)
          have hV := pvec_any (Bss.lit2 (W := wr) wr.heap.size rfl 22 (b1'.out.kp QQ) hq.bs) (by intro z hz; simp at hz; have := XL.out; rcases hz with rfl | rfl <;> omega) (by simp)
          have HV := Lib.hid hV
          have hQs := QQ.size
          clear hV
          generalize sealsB x.2 = yi at *
          go_wp2_with (first | (go_at_call 16; refine HV.out.mono ?_; rintro en w2 ⟨A2, C2, rfl, k2, o2⟩) | (at_builtin; refine app_b rfl (.tmp 38) (.tmp 43) rfl w1.heap.size (ho.kp ((QQ.trans K11.out).trans k2) (by simp)) o2.bs rfl rfl (by have := XL.out; omega) (((hK.trans QQ).trans K11.out).trans k2).size ?_; intro v3 w3 o3 g3 _; have k3 := (((hK.trans QQ).trans K11.out).trans k2).grown g3 (fun b hb => .inr (ho.lt b hb).1)))
          go_roundw
          case rel =>
            rw [← hT.out] at o3
            obtain ⟨A3, C3, hv3⟩ := o3.shape
            exact ⟨k + 1, by omega, by go_num, A3, C3, hv3, k3, hv3 ▸ o3⟩
          case measure => simp [intOf]; omega
    · have : k = ss.length := by omega
      subst this
      rw [List.take_length] at ho ⊢
      have hso := stepsB_le RB.out r6
      have HZr := Lib.hid (hK.obj HZ1.out (by simp))
      have s0 := heap_cell HZr.out 0
      have s1 := heap_cell HZr.out 1
      have s2 := heap_cell HZr.out 2
      have s3 := heap_cell HZr.out 3
      have s4 := heap_cell HZr.out 4
      have s5 := heap_cell HZr.out 5
      simp at s0 s1 s2 s3 s4 s5
      have KK := K1.trans hK
      have hP := HP0.out W0 KK
      have HE := Lib.hid (show pathB l ss = joinV [putLeafB l, stepsB ss] from rfl)
      generalize stepsB ss = yo at *
      generalize putLeafB l = yl at *
      go_wp2_with (first | (go_at_call 17; refine hP.mono ?_; rintro en w2 ⟨A2, C2, rfl, k2, o2⟩) | (go_at_call 16; refine (pvec_any (Bss.lit2 (W := w2) w2.heap.size rfl 22 o2.bs (ho.bs.kp k2)) (by intro z hz; simp at hz; rcases hz with rfl | rfl <;> omega) (by simp)).mono ?_; rintro en w3 ⟨A3, C3, rfl, k3, o3⟩))
      go_ret2
      rw [← HE.out] at o3 ⊢
      have k4 := (KK.trans k2).alloc (.cells #[.slice A2 yl.length C2, .slice A yo.length C] 22)
      exact ⟨A3, C3, rfl, k4.trans k3, o3.mono k4.size⟩
theorem putPath_any {w : World} {v : Value} {l : LeafD} {ss : List StepD} (h : PathV w v l ss) : Calls Tryd.prog 6 #[v] w (PutPathPost w l ss) := by
  unfold PutPathPost
  cases hr : rightP l ss
  · simp only [Bool.false_eq_true, if_false]; exact putPath_no h hr
  · simp only [if_true]; exact putPath_ok h hr
end Go.Proofs.YtgmdcmkokdbeoaaDoor
