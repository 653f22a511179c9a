/- SamePath. -/
import Derived.Test.YtgmdcmkokdbeoaaDoorLawB
set_option linter.unusedVariables false
set_option linter.unusedSimpArgs false
namespace Go.Proofs.YtgmdcmkokdbeoaaDoor
open Go.RowKit

set_option maxRecDepth 100000 in
set_option maxHeartbeats 8000000 in
theorem samePath_any {w : World} {u v : Value} {l : LeafD} {ss : List StepD} (hu : PathV w u l ss) (hv : PathV w v l ss) :
    Calls Tryd.prog 11 #[u, v] w fun e w' => e = .returned (.bool true) ∧ Kp [] w w' := by
  obtain ⟨pA0, pA1, pA2, pA3, pA4, pa, pC0, pC1, pC2, pC3, pC4, pc, rfl, pleaf, psteps⟩ := hu
  obtain ⟨rA0, rA1, rA2, rA3, rA4, ra, rC0, rC1, rC2, rC3, rC4, rc, rfl, rleaf, rsteps⟩ := hv
  have K0 := Lib.hid (((Kp.refl [] w).alloc (.cells #[.slice pA0 l.enc.length pC0, .slice pA1 l.sig.length pC1, .slice pA2 l.name.length pC2, .int .i64 l.src, .slice pA3 l.hash.length pC3, .slice pA4 l.sgn.length pC4, .slice pa ss.length pc] 32)).alloc (.cells #[.slice rA0 l.enc.length rC0, .slice rA1 l.sig.length rC1, .slice rA2 l.name.length rC2, .int .i64 l.src, .slice rA3 l.hash.length rC3, .slice rA4 l.sgn.length rC4, .slice ra ss.length rc] 27))
  have P0 := Lib.hid (alloc2_get w (.cells #[.slice pA0 l.enc.length pC0, .slice pA1 l.sig.length pC1, .slice pA2 l.name.length pC2, .int .i64 l.src, .slice pA3 l.hash.length pC3, .slice pA4 l.sgn.length pC4, .slice pa ss.length pc] 32) (.cells #[.slice rA0 l.enc.length rC0, .slice rA1 l.sig.length rC1, .slice rA2 l.name.length rC2, .int .i64 l.src, .slice rA3 l.hash.length rC3, .slice rA4 l.sgn.length rC4, .slice ra ss.length rc] 27))
  have R0 := Lib.hid (alloc2_last w (.cells #[.slice pA0 l.enc.length pC0, .slice pA1 l.sig.length pC1, .slice pA2 l.name.length pC2, .int .i64 l.src, .slice pA3 l.hash.length pC3, .slice pA4 l.sgn.length pC4, .slice pa ss.length pc] 32) (.cells #[.slice rA0 l.enc.length rC0, .slice rA1 l.sig.length rC1, .slice rA2 l.name.length rC2, .int .i64 l.src, .slice rA3 l.hash.length rC3, .slice rA4 l.sgn.length rC4, .slice ra ss.length rc] 27))
  have hL := sameLeaf_any (pleaf.kp K0.out) (rleaf.kp K0.out)
  obtain ⟨_, _, q1, pn, pm, pt⟩ := psteps.facts
  injection q1 with q1a q1b q1c
  subst q1a q1c
  obtain ⟨_, _, q1, rn, rm, rt⟩ := rsteps.facts
  injection q1 with q1a q1b q1c
  subst q1a q1c
  have PT := Lib.hid pt
  have RT := Lib.hid rt
  clear pleaf rleaf psteps rsteps pt rt
  go_enter Tryd.func11, Tryd.ntmps11
  go_wp2_with (go_at_call 30; refine hL.mono ?_; rintro en w1 ⟨rfl, k1⟩; have P1 := Lib.hid (k1.obj P0.out (by simp)); have R1 := Lib.hid (k1.obj R0.out (by simp)); have p6 := heap_cell P1.out 6; have r6 := heap_cell R1.out 6; simp at p6 r6)
  have K1 := Lib.hid (K0.out.trans k1)
  clear k1
  go_loopw [5] (fun i wr => ∃ k : Nat, k ≤ ss.length ∧ i = .int .i64 k ∧ Kp [] w1 wr) (fun i _ => ss.length - (intOf i).toNat)
  case atStart => exact ⟨0, Nat.zero_le _, rfl, Kp.refl _ _⟩
  case round =>
    obtain ⟨k, hk, rfl, hK⟩ := hrel
    obtain ⟨W1, rfl⟩ : ∃ W1, W1 = wr := ⟨_, rfl⟩
    have p6' := hK.get p6 (by simp)
    have r6' := hK.get r6 (by simp)
    have HK := Lib.hid hK
    clear hK
    by_cases hlt : k < ss.length
    · obtain ⟨g, o, rfl, hc⟩ := PT.out (by omega)
      obtain ⟨g', o', rfl, hc'⟩ := RT.out (by omega)
      obtain ⟨x, hx⟩ := get_lt hlt
      obtain ⟨B1, D1, B2, D2, d1, d2, b1, b2⟩ := hc k x hx
      obtain ⟨S1, T1, S2, T2, s1, s2, a1, a2⟩ := hc' k x hx
      have KK := Lib.hid (K1.out.trans HK.out)
      have e1 := KK.out.get d1 (by simp)
      have e2 := KK.out.get d2 (by simp)
      have e3 := KK.out.get s1 (by simp)
      have e4 := KK.out.get s2 (by simp)
      have q1B := b1.kp KK.out
      have q2B := a1.kp KK.out
      have q1 : ∀ n, (convert 22 9 (.slice B1 x.1.length D1)).run Tryd.prog (W1.drewN n) = .ok (.string (strOf x.1)) (W1.drewN n) := fun n => bs_string (q1B.kp (Kp.drewNs n))
      have q2 : ∀ n, (convert 22 9 (.slice S1 x.1.length T1)).run Tryd.prog (W1.drewN n) = .ok (.string (strOf x.1)) (W1.drewN n) := fun n => bs_string (q2B.kp (Kp.drewNs n))
      obtain ⟨_, _, y1, tn, tm, tc⟩ := b2.facts
      injection y1 with q1a q1b q1c
      subst q1a q1c
      obtain ⟨_, _, y1, tn', tm', tc'⟩ := a2.facts
      injection y1 with q1a q1b q1c
      subst q1a q1c
      have TC := Lib.hid tc
      have TC' := Lib.hid tc'
      have i1 : (0 : Int) ≤ (k : Int) := by omega
      have i2 : (k : Int) < (ss.length : Int) := by omega
      have E1 := Lib.hid e2
      have E2 := Lib.hid e4
      clear hc hc' d1 d2 b1 b2 s1 s2 a1 a2 q1B q2B tc tc' hx
      go_wp2
      go_quiet (fail)
      go_wp2
      clear q1 q2
      go_loopw [6] (fun i2 wq => ∃ j : Nat, j ≤ x.2.length ∧ i2 = .int .i64 j ∧ Kp [] W1 wq) (fun i2 _ => x.2.length - (intOf i2).toNat)
      case atStart => exact ⟨0, Nat.zero_le _, rfl, Kp.drewNs _⟩
      case round =>
        obtain ⟨j, hj, rfl, hQ⟩ := hrel
        obtain ⟨W2, rfl⟩ : ∃ W2, W2 = wr := ⟨_, rfl⟩
        have p62 := hQ.get p6' (by simp)
        have r62 := hQ.get r6' (by simp)
        have e22 := hQ.get e2 (by simp)
        have e42 := hQ.get e4 (by simp)
        have HQ := Lib.hid hQ
        clear hQ
        by_cases hjt : j < x.2.length
        · obtain ⟨g2, o2, rfl, hc2⟩ := TC.out (by omega)
          obtain ⟨g2', o2', rfl, hc2'⟩ := TC'.out (by omega)
          obtain ⟨y, hy⟩ := get_lt hjt
          obtain ⟨M1, N1, M2, N2, f1, f2, c1, c2⟩ := hc2 j y hy
          obtain ⟨M3, N3, M4, N4, f3, f4, c3, c4⟩ := hc2' j y hy
          have QQ := KK.out.trans HQ.out
          have h1 := QQ.get f1 (by simp)
          have h2 := QQ.get f2 (by simp)
          have h3 := QQ.get f3 (by simp)
          have h4 := QQ.get f4 (by simp)
          have m1 := c1.kp QQ
          have m2 := c2.kp QQ
          have m3 := c3.kp QQ
          have m4 := c4.kp QQ
          have v1 : ∀ n, (convert 22 9 (.slice M1 y.1.length N1)).run Tryd.prog (W2.drewN n) = .ok (.string (strOf y.1)) (W2.drewN n) := fun n => bs_string (m1.kp (Kp.drewNs n))
          have v2 : ∀ n, (convert 22 9 (.slice M2 y.2.length N2)).run Tryd.prog (W2.drewN n) = .ok (.string (strOf y.2)) (W2.drewN n) := fun n => bs_string (m2.kp (Kp.drewNs n))
          have v3 : ∀ n, (convert 22 9 (.slice M3 y.1.length N3)).run Tryd.prog (W2.drewN n) = .ok (.string (strOf y.1)) (W2.drewN n) := fun n => bs_string (m3.kp (Kp.drewNs n))
          have v4 : ∀ n, (convert 22 9 (.slice M4 y.2.length N4)).run Tryd.prog (W2.drewN n) = .ok (.string (strOf y.2)) (W2.drewN n) := fun n => bs_string (m4.kp (Kp.drewNs n))
          have i3 : (0 : Int) ≤ (j : Int) := by omega
          have i4 : (j : Int) < (x.2.length : Int) := by omega
          clear hc2 hc2' f1 f2 f3 f4 c1 c2 c3 c4 m1 m2 m3 m4 hy QQ
          go_wp2
          go_quiet (fail)
          go_wp2
          go_roundw
          case rel => exact ⟨j + 1, by omega, by go_num, HQ.out.drewN _⟩
          case measure => simp [intOf]; omega
        · have : j = x.2.length := by omega
          subst this
          go_wp2
          go_roundw
          case rel => exact ⟨k + 1, by omega, by go_num, HK.out.trans HQ.out⟩
          case measure => simp [intOf]; omega
    · have : k = ss.length := by omega
      subst this
      go_wp2
      go_ret
      exact ⟨rfl, K1.out.trans HK.out⟩
end Go.Proofs.YtgmdcmkokdbeoaaDoor
