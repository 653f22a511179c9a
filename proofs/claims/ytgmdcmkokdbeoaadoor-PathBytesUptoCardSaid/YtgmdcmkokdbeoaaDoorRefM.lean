/- The path of the reference: Right. -/
import Derived.Test.YtgmdcmkokdbeoaaDoorRefL
import Derived.Test.YtgmdcmkokdbeoaaDoorPathG
set_option linter.unusedVariables false
set_option linter.unusedSimpArgs false
namespace Go.Proofs.YtgmdcmkokdbeoaaDoor
open Go.RowKit

theorem any_of_get {α : Type} {p : α → Bool} {ss : List α} {k : Nat} {x : α} (h : ss[k]? = some x) (hp : p x = true) : ss.any p = true :=
  List.any_eq_true.2 ⟨x, List.mem_of_getElem? h, hp⟩

def stepsOk (ss : List StepD) : Bool := !ss.any stepBad
section
set_option maxRecDepth 100000
set_option maxHeartbeats 2000000
theorem rRight_leaf {w : World} {v : Value} {l : LeafD} {ss : List StepD} (h : PathV w v l ss) (hn : ¬ rightL l) :
    Calls Tryd.prog 18 #[v] w fun e w' => e = .returned (.bool false) ∧ Kp [] w w' := by
  obtain ⟨A0, A1, A2, A3, A4, a, C0, C1, C2, C3, C4, c, rfl, hleaf, hsteps⟩ := h
  have K0 := Lib.hid ((Kp.refl [] w).alloc (.cells #[.slice A0 l.enc.length C0, .slice A1 l.sig.length C1, .slice A2 l.name.length C2, .int .i64 l.src, .slice A3 l.hash.length C3, .slice A4 l.sgn.length C4, .slice a ss.length c] 27))
  have hR := rright_any (hleaf.kp K0.out)
  rw [decide_eq_false hn] at hR
  clear hleaf hsteps hn
  go_enter Tryd.func18, Tryd.ntmps18
  go_wp2_with (go_at_call 42; refine hR.mono ?_; rintro en w1 ⟨rfl, k1⟩)
  go_ret
  exact ⟨rfl, K0.out.trans k1⟩
theorem rRight_src {w : World} {v : Value} {l : LeafD} {ss : List StepD} (h : PathV w v l ss) (hr : rightL l) (hn : l.src ≠ 3) :
    Calls Tryd.prog 18 #[v] w fun e w' => e = .returned (.bool false) ∧ Kp [] w w' := by
  obtain ⟨A0, A1, A2, A3, A4, a, C0, C1, C2, C3, C4, c, rfl, hleaf, hsteps⟩ := h
  have K0 := Lib.hid ((Kp.refl [] w).alloc (.cells #[.slice A0 l.enc.length C0, .slice A1 l.sig.length C1, .slice A2 l.name.length C2, .int .i64 l.src, .slice A3 l.hash.length C3, .slice A4 l.sgn.length C4, .slice a ss.length c] 27))
  have HZ := Lib.hid (heap_alloc_new w (.cells #[.slice A0 l.enc.length C0, .slice A1 l.sig.length C1, .slice A2 l.name.length C2, .int .i64 l.src, .slice A3 l.hash.length C3, .slice A4 l.sgn.length C4, .slice a ss.length c] 27))
  have hR := rright_any (hleaf.kp K0.out)
  rw [decide_eq_true hr] at hR
  have t3 : (l.src != 3) = true := by simpa using hn
  clear hleaf hsteps hn hr
  go_enter Tryd.func18, Tryd.ntmps18
  go_wp2_with (go_at_call 42; refine hR.mono ?_; rintro en w1 ⟨rfl, k1⟩; have HZ1 := Lib.hid (k1.obj HZ.out (by simp)); have s3 := heap_cell HZ1.out 3; simp at s3)
  go_ret
  exact ⟨rfl, K0.out.trans k1⟩
theorem rRight_many {w : World} {v : Value} {l : LeafD} {ss : List StepD} (h : PathV w v l ss) (hr : rightL l) (h3 : l.src = 3) (hn : 6 < ss.length) :
    Calls Tryd.prog 18 #[v] w fun e w' => e = .returned (.bool false) ∧ Kp [] w w' := by
  obtain ⟨A0, A1, A2, A3, A4, a, C0, C1, C2, C3, C4, c, rfl, hleaf, hsteps⟩ := h
  have K0 := Lib.hid ((Kp.refl [] w).alloc (.cells #[.slice A0 l.enc.length C0, .slice A1 l.sig.length C1, .slice A2 l.name.length C2, .int .i64 l.src, .slice A3 l.hash.length C3, .slice A4 l.sgn.length C4, .slice a ss.length c] 27))
  have HZ := Lib.hid (heap_alloc_new w (.cells #[.slice A0 l.enc.length C0, .slice A1 l.sig.length C1, .slice A2 l.name.length C2, .int .i64 l.src, .slice A3 l.hash.length C3, .slice A4 l.sgn.length C4, .slice a ss.length c] 27))
  have hR := rright_any (hleaf.kp K0.out)
  rw [decide_eq_true hr] at hR
  have t3 : (l.src != 3) = false := by simpa using h3
  have t6 : decide ((6 : Int) < (ss.length : Int)) = true := decide_eq_true (by omega)
  clear hleaf hsteps hn hr h3
  go_enter Tryd.func18, Tryd.ntmps18
  go_wp2_with (go_at_call 42; refine hR.mono ?_; rintro en w1 ⟨rfl, k1⟩; have HZ1 := Lib.hid (k1.obj HZ.out (by simp)); have s3 := heap_cell HZ1.out 3; have s6 := heap_cell HZ1.out 6; simp at s3 s6)
  go_ret
  exact ⟨rfl, K0.out.trans k1⟩

theorem rRight_steps {w : World} {v : Value} {l : LeafD} {ss : List StepD} (h : PathV w v l ss) (hr : rightL l) (h3 : l.src = 3) (h6 : ss.length ≤ 6) :
    Calls Tryd.prog 18 #[v] w fun e w' => e = .returned (.bool (stepsOk ss)) ∧ Kp [] w w' := by
  obtain ⟨A0, A1, A2, A3, A4, a, C0, C1, C2, C3, C4, c, rfl, hleaf, hsteps⟩ := h
  have K0 := Lib.hid ((Kp.refl [] w).alloc (.cells #[.slice A0 l.enc.length C0, .slice A1 l.sig.length C1, .slice A2 l.name.length C2, .int .i64 l.src, .slice A3 l.hash.length C3, .slice A4 l.sgn.length C4, .slice a ss.length c] 27))
  have HZ := Lib.hid (heap_alloc_new w (.cells #[.slice A0 l.enc.length C0, .slice A1 l.sig.length C1, .slice A2 l.name.length C2, .int .i64 l.src, .slice A3 l.hash.length C3, .slice A4 l.sgn.length C4, .slice a ss.length c] 27))
  have hR := rright_any (hleaf.kp K0.out)
  rw [decide_eq_true hr] at hR
  have t3 : (l.src != 3) = false := by simpa using h3
  have t6 : decide ((6 : Int) < (ss.length : Int)) = false := decide_eq_false (by omega)
  obtain ⟨_, _, q1, sn, sm, sc⟩ := hsteps.facts
  injection q1 with q1a q1b q1c
  subst q1a q1c
  have SC := Lib.hid sc
  clear hleaf hsteps hr h3 q1b sc
  go_enter Tryd.func18, Tryd.ntmps18
  go_wp2_with (go_at_call 42; refine hR.mono ?_; rintro en w1 ⟨rfl, k1⟩; have HZ1 := Lib.hid (k1.obj HZ.out (by simp)); have s3 := heap_cell HZ1.out 3; have s6 := heap_cell HZ1.out 6; simp at s3 s6)
  have K1 := K0.out.trans k1
  go_loopw [3] (fun i wr => ∃ k : Nat, k ≤ ss.length ∧ i = .int .i64 k ∧ Kp [] w1 wr ∧ (ss.take k).any stepBad = false) (fun i _ => ss.length - (intOf i).toNat)
  case atStart => exact ⟨0, Nat.zero_le _, rfl, Kp.refl _ _, rfl⟩
  case round =>
    obtain ⟨k, hk, rfl, hK, hb⟩ := hrel
    obtain ⟨W0, rfl⟩ : ∃ W0, W0 = wr := ⟨_, rfl⟩
    have HB := Lib.hid hb
    clear hb
    have HZr := Lib.hid (hK.obj HZ1.out (by simp))
    have r6 := heap_cell HZr.out 6
    simp at r6
    by_cases hlt : k < ss.length
    · obtain ⟨g, o, rfl, hc⟩ := SC.out (by omega)
      obtain ⟨x, hx⟩ := get_lt hlt
      obtain ⟨B1, D1, B2, D2, d1, d2, b1, b2⟩ := hc k x hx
      have KK := K1.trans hK
      have e1 := KK.get d1 (by simp)
      have e2 := KK.get d2 (by simp)
      have HX := Lib.hid hx
      obtain ⟨_, _, q1, tn, tm, tc⟩ := b2.facts
      injection q1 with q1a q1b q1c
      subst q1a q1c
      have TC := Lib.hid tc
      clear hc d1 d2 b1 b2 q1b tc hx
      by_cases c1 : x.1.length = 32
      · have u1 : ((x.1.length : Int) != 32) = false := by simp; omega
        have HC1 := Lib.hid c1
        clear c1
        by_cases c2 : x.2.length ≤ 64
        · have u2 : decide ((64 : Int) < (x.2.length : Int)) = false := decide_eq_false (by omega)
          have KB := Lib.hid ((Kp.refl [] W0).alloc (.cells #[.slice B1 x.1.length D1, .slice B2 x.2.length D2] 51))
          go_wp2
          go_loop [5] (fun i2 => ∃ j : Nat, j ≤ x.2.length ∧ i2 = .int .i64 j ∧ Hid ((x.2.take j).any sealBad = false)) (fun i2 => x.2.length - (intOf i2).toNat)
          case atStart => exact ⟨0, Nat.zero_le _, rfl, Lib.hid rfl⟩
          case round =>
            obtain ⟨j, hj, rfl, HJ⟩ := hrel
            by_cases hjt : j < x.2.length
            · obtain ⟨g2, o2, rfl, hc2⟩ := TC.out (by omega)
              obtain ⟨y, hy⟩ := get_lt hjt
              obtain ⟨E1, F1, E2, F2, f1, f2, b1, b2⟩ := hc2 j y hy
              have QQ := KK.trans KB.out
              have g1 := QQ.get f1 (by simp)
              have g3 := QQ.get f2 (by simp)
              have HY := Lib.hid hy
              clear hc2 f1 f2 b1 b2 hy
              by_cases e3 : y.1.length = 32
              · have v1 : ((y.1.length : Int) != 32) = false := by simp; omega
                have HE3 := Lib.hid e3
                clear e3
                by_cases e4 : y.2.length ≤ 100
                · have v2 : decide ((100 : Int) < (y.2.length : Int)) = false := decide_eq_false (by omega)
                  go_wp2
                  go_round
                  case rel => exact ⟨j + 1, by omega, by go_num, Lib.hid (by rw [any_take_succ _ _ _ _ HY.out, HJ.out]; have := HE3.out; simp [sealBad]; omega)⟩
                  case measure => simp [intOf]; omega
                · have v2 : decide ((100 : Int) < (y.2.length : Int)) = true := decide_eq_true (by omega)
                  have HN := Lib.hid (show stepsOk ss = false by rw [stepsOk, any_of_get HX.out (by rw [stepBad, any_of_get HY.out (by simp [sealBad]; omega)]; simp)]; rfl)
                  go_wp2
                  go_ret
                  exact ⟨by rw [HN.out]; rfl, KK.alloc _⟩
              · have v1 : ((y.1.length : Int) != 32) = true := by simp; omega
                have HN := Lib.hid (show stepsOk ss = false by rw [stepsOk, any_of_get HX.out (by rw [stepBad, any_of_get HY.out (by simp [sealBad]; omega)]; simp)]; rfl)
                go_wp2
                go_ret
                exact ⟨by rw [HN.out]; rfl, KK.alloc _⟩
            · have : j = x.2.length := by omega
              subst this
              rw [List.take_length] at HJ
              go_wp2
              go_roundw
              case rel => exact ⟨k + 1, by omega, by go_num, hK.alloc _, by rw [any_take_succ _ _ _ _ HX.out, HB.out]; have := HC1.out; simp [stepBad, HJ.out]; omega⟩
              case measure => simp [intOf]; omega
        · have u2 : decide ((64 : Int) < (x.2.length : Int)) = true := decide_eq_true (by omega)
          have hany : stepsOk ss = false := by rw [stepsOk, any_of_get HX.out (by simp [stepBad]; omega)]; rfl
          have HN := Lib.hid hany
          clear hany
          go_wp2
          go_ret
          exact ⟨by rw [HN.out]; rfl, KK.alloc _⟩
      · have u1 : ((x.1.length : Int) != 32) = true := by simp; omega
        have hany : stepsOk ss = false := by rw [stepsOk, any_of_get HX.out (by simp [stepBad]; omega)]; rfl
        have HN := Lib.hid hany
        clear hany
        go_wp2
        go_ret
        exact ⟨by rw [HN.out]; rfl, KK.alloc _⟩
    · have : k = ss.length := by omega
      subst this
      have hany : stepsOk ss = true := by have := HB.out; rw [List.take_length] at this; rw [stepsOk, this]; rfl
      have HN := Lib.hid hany
      clear hany
      go_wp2
      go_ret
      exact ⟨by rw [HN.out]; rfl, K1.trans hK⟩
end
theorem rRight_any {w : World} {v : Value} {l : LeafD} {ss : List StepD} (h : PathV w v l ss) :
    Calls Tryd.prog 18 #[v] w fun e w' => e = .returned (.bool (rightP l ss)) ∧ Kp [] w w' := by
  by_cases h1 : rightL l
  · by_cases h2 : l.src = 3
    · by_cases h3 : ss.length ≤ 6
      · have : rightP l ss = stepsOk ss := by simp [rightP, stepsOk, h1, h2, h3]
        rw [this]
        exact rRight_steps h h1 h2 h3
      · have : rightP l ss = false := by simp [rightP, h3]
        rw [this]
        exact rRight_many h h1 h2 (by omega)
    · have : rightP l ss = false := by simp [rightP, h2]
      rw [this]
      exact rRight_src h h1 h2
  · have : rightP l ss = false := by simp [rightP, h1]
    rw [this]
    exact rRight_leaf h h1
end Go.Proofs.YtgmdcmkokdbeoaaDoor
