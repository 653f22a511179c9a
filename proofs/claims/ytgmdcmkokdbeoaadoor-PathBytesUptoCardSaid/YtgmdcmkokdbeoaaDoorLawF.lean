/- What must come. -/
import Derived.Test.YtgmdcmkokdbeoaaDoorReg
import Derived.Test.YtgmdcmkokdbeoaaDoorLawB
set_option linter.unusedVariables false
set_option linter.unusedSimpArgs false
namespace Go.Proofs.YtgmdcmkokdbeoaaDoor
open Go.RowKit

/-- 32 bytes that are 0. -/
def z32 : Array Value := Array.replicate 32 (.int .u8 0)
def zs32 : List UInt8 := List.replicate 32 0
theorem z32_list : z32.toList = zs32.map bv := by simp [z32, zs32, bv]
theorem mk32 : ∀ w : World, (Instr.makeSlice 22 (.int .i64 32) (.int .i64 32)).run Tryd.prog w = .ok (.slice (some ⟨w.heap.size, 0, none⟩) 32 32) (w.alloc (.cells z32 5)) := fun _ => by kernel_rfl

set_option maxRecDepth 100000 in
set_option maxHeartbeats 1000000 in
theorem secrets_0 {w : World} {A : Option Addr} {C : Nat} {xs : List UInt8} (h : Bs w (.slice A 32 C) xs) :
    Calls Tryd.prog 31 #[.slice A 32 C, .int .i64 0] w fun e w' => ∃ g A' C', e = .returned (.tuple #[.slice (some ⟨g, 0, none⟩) 1 1, .int .i64 0]) ∧ Kp [] w w' ∧ w'.cell? ⟨g, 0, none⟩ = some (.slice A' 32 C') ∧ Bs w' (.slice A' 32 C') xs := by
  have hl := h.cap.1
  have hC := clone_any h (by omega)
  rw [← hl] at hC
  clear h hl
  go_enter Tryd.func31, Tryd.ntmps31
  go_wp2_with (go_at_call 45; refine hC.mono ?_; rintro en w1 ⟨A1, C1, rfl, k1, o1⟩)
  refine wp_loop_rounds 1 ?_
  rw [rounds_succ]
  go_wp2
  go_ret2
  refine ⟨_, A1, C1, rfl, k1.alloc _, ?_, o1.bs.kp ((Kp.refl _ _).alloc _)⟩
  rw [World.cell?_alloc_new]
  rfl

theorem getPathE_nil : getPathE [] = 21 := by
  have h : ¬ okPath [] := by
    intro h
    have h1 := h.1
    have : rdPathL [] = leafZ := by
      unfold rdPathL getLeafL
      rw [if_neg]
      intro h2
      have := h2.2.1
      have e : (rdLeaf (v1 [] 0).1).1 = leafZ := by rfl
      rw [e] at this
      exact absurd this.1 (by decide)
    rw [this] at h1
    simp [rightP, rightL, leafZ] at h1
  simp [getPathE, h]

set_option maxRecDepth 100000 in
set_option maxHeartbeats 2000000 in
theorem knows_any (w : World) : Calls Tryd.prog 13 #[] w fun e w' => e = .returned (.bool true) ∧ Kp [] w w' := by
  have hmk := mk32
  have HM := Lib.hid hmk
  have HO := Lib.hid (fun (W : World) => (Ob.lit (base := W.heap.size) (w := W) (Nat.le_refl _) z32 32 zs32 z32_list rfl (by omega)))
  have hS := secrets_0 (HO.out w).bs
  have KM := Lib.hid ((Kp.refl [] w).alloc (.cells z32 5))
  go_enter Tryd.func13, Tryd.ntmps13
  go_wp2_with fail
  refine hS.mono ?_
  rintro en w1 ⟨g, A1, C1, rfl, k1, hg, b1⟩
  have hG := getPath_any (Bs.nil w1) (by simp)
  unfold GetPathPost at hG
  rw [getPathE_nil] at hG
  have K1 := Lib.hid (KM.out.trans k1)
  have G1 := Lib.hid hg
  have B1 := Lib.hid b1
  clear k1 hg b1
  go_wp2_with fail
  refine hG.mono ?_
  rintro en w2 ⟨v, rfl, ⟨A0, A2, A3, A4, A5, A6, C0, C2, C3, C4, C5, C6, rfl, -⟩, k2⟩
  have g2 := k2.get G1.out (by simp)
  have B2 := Lib.hid (B1.out.kp k2)
  have K2 := Lib.hid (K1.out.trans k2)
  clear k2
  unfold pathCells
  obtain ⟨WZ, hWZ⟩ : ∃ WZ, WZ = w2.alloc (.cells #[.slice A0 (getPathL []).enc.length C0, .slice A2 (getPathL []).sig.length C2, .slice A3 (getPathL []).name.length C3, .int .i64 (getPathL []).src, .slice A4 (getPathL []).hash.length C4, .slice A5 (getPathL []).sgn.length C5, .slice A6 (getPathS []).length C6] 32) := ⟨_, rfl⟩
  have KZ := Lib.hid (show Kp [] w2 WZ by rw [hWZ]; exact (Kp.refl [] w2).alloc _)
  have HS0 := Lib.hid (show ∀ W', Kp [] WZ W' → W'.cell? ⟨g, 0, none⟩ = some (.slice A1 32 C1) ∧ (convert 22 9 (.slice A1 32 C1)).run Tryd.prog W' = .ok (.string (strOf zs32)) W' from fun W' k => ⟨(KZ.out.trans k).get g2 (by simp), bs_string (B2.out.kp (KZ.out.trans k))⟩)
  have hcv : (convert 22 9 (.slice (some ⟨WZ.heap.size, 0, none⟩) 32 32)).run Tryd.prog (WZ.alloc (.cells z32 5)).drew = .ok (.string (strOf zs32)) (WZ.alloc (.cells z32 5)).drew := bs_string ((HO.out WZ).bs.kp ((Kp.refl [] _).drew))
  clear g2
  go_wp2
  rw [← hWZ]
  clear hWZ
  refine wp_region_R (last := 22) (S := (fun w' => w'.cell? ⟨g, 0, none⟩ = some (.slice A1 32 C1) ∧ (convert 22 9 (.slice A1 32 C1)).run Tryd.prog w' = .ok (.string (strOf zs32)) w')) (by kernel_rfl) (by (try dsimp only); (first | assumption | (refine HS0.out _ ?_; repeat (first | exact Kp.refl _ _ | apply Kp.drew | apply Kp.alloc)))) (fun hHeld => ?_)
  refine wpAnyR_take (i := 0) (v := ?v1) rfl (by kernel_rfl) (by kernel_rfl) (by kernel_rfl) (by kernel_rfl) (fun _ _ _ h => h) (Or.inl ⟨by rfl, ?y1⟩) (by assumption) ?r1
  case y1 => (intro w hSw; (try dsimp only at hSw); go_simp) <;> with_reducible rfl
  (try simp only [Act.put, List.getElem_toArray, List.getElem_cons_succ, List.getElem_cons_zero, List.setIfInBounds_toArray, List.set_cons_zero, List.set_cons_succ])
  refine wpAnyR_ready (rs := [1]) (by kernel_rfl) (by simp) ?_
  refine AllReadyR.cons rfl (fun K hK => ?_) AllReadyR.nil
  (go_simp; go_at_call 10; refine (num_any _ _).mono ?_; rintro en w' ⟨rfl, rfl⟩; (try go_wp2_with fail))
  refine hK.out _ _ ?_ (fun hHeld => ?_)
  · (try dsimp only)
    (first | assumption | (refine HS0.out _ ?_; repeat (first | exact Kp.refl _ _ | apply Kp.drew | apply Kp.alloc)))
  clear hK K
  refine wpAnyR_take (i := 2) (v := ?v2) rfl (by kernel_rfl) (by kernel_rfl) (by kernel_rfl) (by kernel_rfl) (fun _ _ _ h => h) (Or.inl ⟨by rfl, ?y2⟩) (by assumption) ?r2
  case y2 => (intro w hSw; (try dsimp only at hSw); go_simp) <;> with_reducible rfl
  (try simp only [Act.put, List.getElem_toArray, List.getElem_cons_succ, List.getElem_cons_zero, List.setIfInBounds_toArray, List.set_cons_zero, List.set_cons_succ])
  refine wpAnyR_take (i := 3) (v := ?v3) rfl (by kernel_rfl) (by kernel_rfl) (by kernel_rfl) (by kernel_rfl) (fun _ _ _ h => h) (Or.inl ⟨by rfl, ?y3⟩) (by assumption) ?r3
  case y3 => (intro w hSw; (try dsimp only at hSw); go_simp) <;> with_reducible rfl
  (try simp only [Act.put, List.getElem_toArray, List.getElem_cons_succ, List.getElem_cons_zero, List.setIfInBounds_toArray, List.set_cons_zero, List.set_cons_succ])
  refine wpAnyR_take (i := 4) (v := ?v4) rfl (by kernel_rfl) (by kernel_rfl) (by kernel_rfl) (by kernel_rfl) (fun _ _ _ h => h) (Or.inl ⟨by rfl, ?y4⟩) (by assumption) ?r4
  case y4 => (intro w hSw; (try dsimp only at hSw); go_simp) <;> with_reducible rfl
  (try simp only [Act.put, List.getElem_toArray, List.getElem_cons_succ, List.getElem_cons_zero, List.setIfInBounds_toArray, List.set_cons_zero, List.set_cons_succ])
  refine wpAnyR_take (i := 5) (v := ?v5) rfl (by kernel_rfl) (by kernel_rfl) (by kernel_rfl) (by kernel_rfl) (fun _ _ _ h => h) (Or.inl ⟨by rfl, ?y5⟩) (by assumption) ?r5
  case y5 => (intro w hSw; (try dsimp only at hSw); go_simp) <;> with_reducible rfl
  (try simp only [Act.put, List.getElem_toArray, List.getElem_cons_succ, List.getElem_cons_zero, List.setIfInBounds_toArray, List.set_cons_zero, List.set_cons_succ])
  refine wpAnyR_take (i := 6) (v := ?v6) rfl (by kernel_rfl) (by kernel_rfl) (by kernel_rfl) (by kernel_rfl) (fun _ _ _ h => h) (Or.inl ⟨by rfl, ?y6⟩) (by assumption) ?r6
  case y6 => (intro w hSw; (try dsimp only at hSw); go_simp) <;> with_reducible rfl
  (try simp only [Act.put, List.getElem_toArray, List.getElem_cons_succ, List.getElem_cons_zero, List.setIfInBounds_toArray, List.set_cons_zero, List.set_cons_succ])
  refine wpAnyR_take (i := 7) (v := ?v7) rfl (by kernel_rfl) (by kernel_rfl) (by kernel_rfl) (by kernel_rfl) (fun _ _ _ h => h) (Or.inl ⟨by rfl, ?y7⟩) (by assumption) ?r7
  case y7 => (intro w hSw; (try dsimp only at hSw); go_simp) <;> with_reducible rfl
  (try simp only [Act.put, List.getElem_toArray, List.getElem_cons_succ, List.getElem_cons_zero, List.setIfInBounds_toArray, List.set_cons_zero, List.set_cons_succ])
  refine wpAnyR_take (i := 8) (v := ?v8) rfl (by kernel_rfl) (by kernel_rfl) (by kernel_rfl) (by kernel_rfl) (fun _ _ _ h => h) (Or.inl ⟨by rfl, ?y8⟩) (by assumption) ?r8
  case y8 => (intro w hSw; (try dsimp only at hSw); go_simp) <;> with_reducible rfl
  (try simp only [Act.put, List.getElem_toArray, List.getElem_cons_succ, List.getElem_cons_zero, List.setIfInBounds_toArray, List.set_cons_zero, List.set_cons_succ])
  refine wpAnyR_take (i := 9) (v := ?v9) rfl (by kernel_rfl) (by kernel_rfl) (by kernel_rfl) (by kernel_rfl) (fun _ _ _ h => h) (Or.inl ⟨by rfl, ?y9⟩) (by assumption) ?r9
  case y9 => (intro w hSw; (try dsimp only at hSw); go_simp) <;> with_reducible rfl
  (try simp only [Act.put, List.getElem_toArray, List.getElem_cons_succ, List.getElem_cons_zero, List.setIfInBounds_toArray, List.set_cons_zero, List.set_cons_succ])
  refine wpAnyR_take (i := 10) (v := ?v10) rfl (by kernel_rfl) (by kernel_rfl) (by kernel_rfl) (by kernel_rfl) (fun _ _ _ h => h) (Or.inl ⟨by rfl, ?y10⟩) (by assumption) ?r10
  case y10 => (intro w hSw; (try dsimp only at hSw); go_simp) <;> with_reducible rfl
  (try simp only [Act.put, List.getElem_toArray, List.getElem_cons_succ, List.getElem_cons_zero, List.setIfInBounds_toArray, List.set_cons_zero, List.set_cons_succ])
  refine wpAnyR_take (i := 11) (v := ?v11) rfl (by kernel_rfl) (by kernel_rfl) (by kernel_rfl) (by kernel_rfl) (fun _ _ _ h => h) (Or.inl ⟨by rfl, ?y11⟩) (by assumption) ?r11
  case y11 => (intro w hSw; (try dsimp only at hSw); go_simp) <;> with_reducible rfl
  (try simp only [Act.put, List.getElem_toArray, List.getElem_cons_succ, List.getElem_cons_zero, List.setIfInBounds_toArray, List.set_cons_zero, List.set_cons_succ])
  refine wpAnyR_take (i := 12) (v := ?v12) rfl (by kernel_rfl) (by kernel_rfl) (by kernel_rfl) (by kernel_rfl) (fun _ _ _ h => h) (Or.inl ⟨by rfl, ?y12⟩) (by assumption) ?r12
  case y12 => (intro w hSw; (try dsimp only at hSw); go_simp) <;> with_reducible rfl
  (try simp only [Act.put, List.getElem_toArray, List.getElem_cons_succ, List.getElem_cons_zero, List.setIfInBounds_toArray, List.set_cons_zero, List.set_cons_succ])
  refine wpAnyR_ready (rs := [13]) (by kernel_rfl) (by simp) ?_
  refine AllReadyR.cons rfl (fun K hK => ?_) AllReadyR.nil
  go_simp
  refine hK.out _ _ ?_ (fun hHeld => ?_)
  · (try dsimp only)
    (first | assumption | (refine HS0.out _ ?_; repeat (first | exact Kp.refl _ _ | apply Kp.drew | apply Kp.alloc)))
  clear hK K
  refine wpAnyR_ready (rs := [14]) (by kernel_rfl) (by simp) ?_
  refine AllReadyR.cons rfl (fun K hK => ?_) AllReadyR.nil
  go_simp
  refine hK.out _ _ ?_ (fun hHeld => ?_)
  · (try dsimp only)
    (first | assumption | (refine HS0.out _ ?_; repeat (first | exact Kp.refl _ _ | apply Kp.drew | apply Kp.alloc)))
  clear hK K
  refine wpAnyR_take (i := 15) (v := ?v13) rfl (by kernel_rfl) (by kernel_rfl) (by kernel_rfl) (by kernel_rfl) (fun _ _ _ h => h) (Or.inl ⟨by rfl, ?y13⟩) (by assumption) ?r13
  case y13 => (intro w hSw; (try dsimp only at hSw); go_simp) <;> with_reducible rfl
  (try simp only [Act.put, List.getElem_toArray, List.getElem_cons_succ, List.getElem_cons_zero, List.setIfInBounds_toArray, List.set_cons_zero, List.set_cons_succ])
  refine wpAnyR_take (i := 16) (v := ?v14) rfl (by kernel_rfl) (by kernel_rfl) (by kernel_rfl) (by kernel_rfl) (fun _ _ _ h => h) (Or.inl ⟨by rfl, ?y14⟩) (by assumption) ?r14
  case y14 => (intro w hSw; (try dsimp only at hSw); go_simp) <;> with_reducible rfl
  (try simp only [Act.put, List.getElem_toArray, List.getElem_cons_succ, List.getElem_cons_zero, List.setIfInBounds_toArray, List.set_cons_zero, List.set_cons_succ])
  refine wpAnyR_take (i := 17) (v := ?v15) rfl (by kernel_rfl) (by kernel_rfl) (by kernel_rfl) (by kernel_rfl) (fun _ _ _ h => h) (Or.inl ⟨by rfl, ?y15⟩) (by assumption) ?r15
  case y15 => (intro w hSw; (try dsimp only at hSw); go_simp) <;> with_reducible rfl
  (try simp only [Act.put, List.getElem_toArray, List.getElem_cons_succ, List.getElem_cons_zero, List.setIfInBounds_toArray, List.set_cons_zero, List.set_cons_succ])
  refine wpAnyR_take (i := 18) (v := ?v16) rfl (by kernel_rfl) (by kernel_rfl) (by kernel_rfl) (by kernel_rfl) (fun _ _ _ h => h) (Or.inl ⟨by rfl, ?y16⟩) (by assumption) ?r16
  case y16 => (intro w hSw; (try dsimp only at hSw); go_simp) <;> with_reducible rfl
  (try simp only [Act.put, List.getElem_toArray, List.getElem_cons_succ, List.getElem_cons_zero, List.setIfInBounds_toArray, List.set_cons_zero, List.set_cons_succ])
  refine wpAnyR_ready (rs := [19]) (by kernel_rfl) (by simp) ?_
  refine AllReadyR.cons rfl (fun K hK => ?_) AllReadyR.nil
  (go_simp; go_at_call 10; refine (num_any _ _).mono ?_; rintro en w' ⟨rfl, rfl⟩; (try go_wp2_with fail))
  refine hK.out _ _ ?_ (fun hHeld => ?_)
  · (try dsimp only)
    (first | assumption | (refine HS0.out _ ?_; repeat (first | exact Kp.refl _ _ | apply Kp.drew | apply Kp.alloc)))
  clear hK K
  refine wpAnyR_take (i := 20) (v := ?v17) rfl (by kernel_rfl) (by kernel_rfl) (by kernel_rfl) (by kernel_rfl) (fun _ _ _ h => h) (Or.inl ⟨by rfl, ?y17⟩) (by assumption) ?r17
  case y17 => (intro w hSw; (try dsimp only at hSw); go_simp) <;> with_reducible rfl
  (try simp only [Act.put, List.getElem_toArray, List.getElem_cons_succ, List.getElem_cons_zero, List.setIfInBounds_toArray, List.set_cons_zero, List.set_cons_succ])
  refine wpAnyR_take (i := 21) (v := ?v18) rfl (by kernel_rfl) (by kernel_rfl) (by kernel_rfl) (by kernel_rfl) (fun _ _ _ h => h) (Or.inl ⟨by rfl, ?y18⟩) (by assumption) ?r18
  case y18 => (intro w hSw; (try dsimp only at hSw); go_simp) <;> with_reducible rfl
  (try simp only [Act.put, List.getElem_toArray, List.getElem_cons_succ, List.getElem_cons_zero, List.setIfInBounds_toArray, List.set_cons_zero, List.set_cons_succ])
  refine wpAnyR_ready (rs := [22]) (by kernel_rfl) (by simp) ?_
  refine AllReadyR.final rfl (fun K hK => ?_)
  go_simp
  refine hK.out _ _ ?_
  clear hK K
  refine wpAnyR_done (by kernel_rfl) ?_ _
  all_goals go_wp2
  all_goals go_ret
  all_goals exact ⟨by simp, (K2.out.trans KZ.out).trans (by repeat (first | exact Kp.refl _ _ | apply Kp.drew | apply Kp.alloc))⟩
end Go.Proofs.YtgmdcmkokdbeoaaDoor
