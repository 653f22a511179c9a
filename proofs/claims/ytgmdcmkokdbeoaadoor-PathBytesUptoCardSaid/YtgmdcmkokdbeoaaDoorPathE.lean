/- path.read's iterator. -/
import Derived.Test.YtgmdcmkokdbeoaaDoorRange
import Derived.Test.YtgmdcmkokdbeoaaDoorPathD
set_option linter.unusedVariables false
namespace Go.Proofs.YtgmdcmkokdbeoaaDoor
open Go.RowKit
attribute [local go_sem] Oper.semAt_some

theorem lnv_dec (xs : List UInt8) (h : (lnv xs).2.2 = 0) : 1 ≤ (lnv xs).2.1 ∧ (lnv xs).2.1 ≤ xs.length := by
  unfold lnv at h ⊢
  generalize xs.length = n at *
  repeat' split
  all_goals simp_all
  all_goals omega
theorem v1_dec (xs : List UInt8) (e : Int) (h : (v1 xs e).2.2 = 0) : e = 0 ∧ (v1 xs e).2.1.length < xs.length := by
  by_cases he : e = 0
  · subst he
    refine ⟨rfl, ?_⟩
    rw [show v1 xs 0 = vc xs from rfl] at h ⊢
    unfold vc at h ⊢
    split
    · rename_i h1; rw [if_pos h1] at h; exact absurd h h1
    · rename_i h1
      obtain ⟨h2, h3⟩ := lnv_dec xs (by omega)
      rw [if_neg h1] at h
      split
      · rename_i h4; rw [if_pos h4] at h; simp at h
      · rename_i h4
        rw [if_neg h4] at h
        split
        · rename_i h5; rw [if_pos h5] at h; simp at h
        · simp only [List.length_drop]; omega
  · simp only [v1, if_pos he] at h
    exact absurd h he

/-- One round of the iterator: the pair, what is left, the error. -/
def itStep (xs : List UInt8) : SealD × List UInt8 × Int :=
  (((v1 xs 0).1, (v1 (v1 xs 0).2.1 (v1 xs 0).2.2).1), (v1 (v1 xs 0).2.1 (v1 xs 0).2.2).2.1, (v1 (v1 xs 0).2.1 (v1 xs 0).2.2).2.2)
def pairsF : Nat → List UInt8 → Int → List SealD
  | 0, _, _ => []
  | n + 1, xs, e => if 0 < xs.length ∧ e = 0 then (itStep xs).1 :: pairsF n (itStep xs).2.1 (itStep xs).2.2 else []
/-- All pairs that a reader over xs hands out. -/
def pairs (xs : List UInt8) : List SealD := pairsF xs.length xs 0
theorem itStep_dec (xs : List UInt8) (h : (itStep xs).2.2 = 0) : (itStep xs).2.1.length < xs.length := by
  unfold itStep at h ⊢
  simp only at h ⊢
  obtain ⟨h1, h2⟩ := v1_dec _ _ h
  obtain ⟨_, h3⟩ := v1_dec _ _ h1
  omega
theorem itStep_len (xs : List UInt8) : (itStep xs).2.1.length ≤ xs.length := by
  unfold itStep
  have h1 := (v1_len xs 0).2
  have h2 := (v1_len (v1 xs 0).2.1 (v1 xs 0).2.2).2
  simp only; omega
theorem pairsF_stop (n : Nat) (xs : List UInt8) (e : Int) (h : ¬ (0 < xs.length ∧ e = 0)) : pairsF n xs e = [] := by
  cases n with
  | zero => rfl
  | succ n => unfold pairsF; rw [if_neg h]

theorem pairsF_len (n : Nat) (xs : List UInt8) (e : Int) : (pairsF n xs e).length ≤ n ∧ ∀ p ∈ pairsF n xs e, p.1.length ≤ xs.length ∧ p.2.length ≤ xs.length := by
  induction n generalizing xs e with
  | zero => exact ⟨Nat.le_refl _, by simp [pairsF]⟩
  | succ n ih =>
    unfold pairsF
    split
    · have h := ih (itStep xs).2.1 (itStep xs).2.2
      have hl := itStep_len xs
      have h1 := v1_len xs 0
      have h2 := v1_len (v1 xs 0).2.1 (v1 xs 0).2.2
      refine ⟨by simp only [List.length_cons]; omega, fun p hp => ?_⟩
      rcases List.mem_cons.1 hp with rfl | hp
      · unfold itStep; simp only; omega
      · have := h.2 p hp; omega
    · exact ⟨Nat.zero_le _, by simp⟩

/-- How much a reader has yet to come. -/
def rdM (w : World) (r : Nat) : Nat :=
  match w.cell? ⟨r, 0, none⟩, w.cell? ⟨r, 1, none⟩ with
  | some (.slice _ n _), some (.int _ e) => if e = 0 then n + 1 else 0
  | _, _ => 0
theorem Rd.measure {w : World} {r : Nat} {xs : List UInt8} {e : Int} (h : Rd w r xs e) : rdM w r = if e = 0 then xs.length + 1 else 0 := by
  obtain ⟨sv, hh, ⟨a, c, rfl, _⟩, _⟩ := h
  unfold rdM
  rw [heap_cell hh 0, heap_cell hh 1]
  rfl
theorem Rd.kind {w : World} {r : Nat} {xs : List UInt8} {e : Int} (h : Rd w r xs e) : ∃ cs, w.heap[r]? = some (.cells cs 99 (0, 0)) := by
  obtain ⟨sv, hh, _⟩ := h; exact ⟨_, hh⟩

set_option maxRecDepth 100000 in
set_option maxHeartbeats 4000000 in
theorem read_in {l b r base : Nat} {xs : List UInt8} (hxs : xs.length ≤ 35184372088832) {J : List SealD → World → Prop}
    (hY : ∀ pre x W v1 v2, pre.length ≤ xs.length → x.1.length ≤ xs.length → x.2.length ≤ xs.length → J pre W → base ≤ W.heap.size → Ob base W v1 x.1 → Ob base W v2 x.2 → YieldAt Fence.wide 0 Tryd.prog l #[v1, v2] W fun e W' => e = .returned (.bool true) ∧ J (pre ++ [x]) W' ∧ Kt [5, 99, 62] W W' ∧ W.heap.size ≤ W'.heap.size)
    (hJ : ∀ pre W W' ys e, J pre W → Rd W r ys e → Kp [r] W W' → J pre W')
    {W : World} (hb : W.heap[b]? = some (.cells #[.pointer (some ⟨r, 0, none⟩)] 62 (0, 0))) (hr : Rd W r xs 0) (hbase : base ≤ W.heap.size) (h0 : J [] W) :
    CallsIn Fence.wide 0 Tryd.prog 51 #[.func (.yield l) #[] #[], .pointer (some ⟨b, 0, none⟩)] W fun e W' => (∃ v, e = .returned v) ∧ J (pairs xs) W' := by
  refine callsIn_of_wp Tryd.func51 rfl trivial ?_ rfl
  simp only [Tryd.ntmps51, List.size_toArray, List.length_cons, List.length_nil, Nat.reduceAdd, Nat.reduceSub, Array.replicate_succ, Array.replicate_zero, List.push_toArray, List.append_toArray, List.nil_append, List.cons_append]
  gi_wp2
  gi_loopw [] (fun wr => ∃ pre ys e k, J pre wr ∧ Rd wr r ys e ∧ base ≤ wr.heap.size ∧ wr.heap[b]? = some (.cells #[.pointer (some ⟨r, 0, none⟩)] 62 (0, 0)) ∧ pre ++ pairsF k ys e = pairs xs ∧ (e = 0 → ys.length ≤ k) ∧ ys.length ≤ xs.length) (fun wr => rdM wr r)
  case atStart => exact ⟨[], xs, 0, xs.length, h0, hr, hbase, hb, rfl, fun _ => Nat.le_refl _, Nat.le_refl _⟩
  case round =>
    obtain ⟨pre, ys, e, k, hj, hrd, hbs, hbx, hall, hk, hyx⟩ := hrel
    have c0 := heap_cell hbx 0
    simp at c0
    have HB := Lib.hid hbx
    have HM := Lib.hid hrd.measure
    have HK := Lib.hid hk
    have HA := Lib.hid hall
    have hL := left_any hrd
    have hE := err_any hrd
    clear hbx hk hall
    by_cases hl : 0 < ys.length
    · have tl : decide (0 < (ys.length : Int)) = true := decide_eq_true (by omega)
      by_cases he : e = 0
      · subst he
        gi_wp2_with fail
        refine ⟨trivial, rfl, (callsIn_wide.2 hL).mono ?_⟩
        rintro en w' ⟨rfl, rfl⟩
        gi_wp2_with fail
        refine ⟨trivial, rfl, (callsIn_wide.2 hE).mono ?_⟩
        rintro en w' ⟨rfl, rfl⟩
        gi_wp2
        rcases hA : v1 ys 0 with ⟨va, ya, ea⟩
        rcases hB : v1 ya ea with ⟨vb, yb, eb⟩
        have la := v1_len ys 0
        rw [hA] at la
        simp only at la
        have lb := v1_len ya ea
        rw [hB] at lb
        simp only at lb
        have hit : itStep ys = ((va, vb), yb, eb) := by simp [itStep, hA, hB]
        have hdc := itStep_dec ys
        rw [hit] at hdc
        have HIT := Lib.hid hit
        have HDC := Lib.hid hdc
        have hV1 := v1_any (hrd.kp ((Kp.refl [] wr).drew)) (by omega)
        rw [hA] at hV1
        have HV1 := Lib.hid hV1
        have HBB := Lib.hid hB
        have HJ := Lib.hid hj
        have HRD := Lib.hid hrd
        clear hA hB hit hdc hV1 hj hrd
        have hbr : b ∉ [r] := by
          intro h
          have h1 := HB.out
          obtain ⟨cs, h2⟩ := HRD.out.kind
          simp at h
          rw [h, h2] at h1
          simp at h1
        refine wpIn_wide.2 ?_
        go_region_held3 (fun w' => w'.cell? ⟨b, 0, none⟩ = some (.pointer (some ⟨r, 0, none⟩)))
          (first | go_keep)
          (first | (go_at_call 22; (with_reducible refine HV1.out.mono ?_); rintro en w1 ⟨A1, C1, rfl, k1, o1, r1⟩; have hV2 := v1_any (xs := ya) (e := ea) r1 (by omega); rw [HBB.out] at hV2; have d0 := k1.get c0 hbr) | (go_at_call 22; (with_reducible refine hV2.mono ?_); rintro en w2 ⟨A2, C2, rfl, k2, o2, r2⟩; have d1 := k2.get d0 hbr))
        have HB2 := Lib.hid (k2.obj (k1.obj HB.out hbr) hbr)
        have z1 := k1.size
        have z2 := k2.size
        simp only [World.size_drew] at z1
        have hJ1 := hJ pre wr w1 ys 0 HJ.out HRD.out (((Kp.refl [r] wr).drew).trans k1)
        have hJ2 := hJ pre w1 w2 ya ea hJ1 r1 k2
        have hpl : pre.length ≤ xs.length := by
          have h1 := congrArg List.length HA.out
          have h2 := (pairsF_len xs.length xs 0).1
          rw [List.length_append] at h1
          have h3 : (pairs xs).length ≤ xs.length := h2
          omega
        obtain ⟨fn, tmps, assign, body, hy, hR⟩ := hY pre (va, vb) w2 (.slice A1 va.length C1) (.slice A2 vb.length C2) hpl (by simp only; omega) (by simp only; omega) hJ2 (by omega) ((o1.mono (by simp; omega)).step k2 r1) (o2.mono (by omega))
        have HR := Lib.hid hR
        clear hR
        gi_wp2
        refine ⟨rfl, HR.out.mono ?_⟩
        rintro e3 W3 ⟨rfl, hJ3, kt3, hs3⟩
        have HJ3 := Lib.hid hJ3
        have HR3 := Lib.hid (r2.kt kt3 (by decide) (by decide))
        have HB3 := Lib.hid (kt3 _ _ _ _ HB2.out (by decide))
        obtain ⟨k', rfl⟩ : ∃ k', k = k' + 1 := ⟨k - 1, by have := HK.out trivial; omega⟩
        have HA3 := Lib.hid (show (pre ++ [(va, vb)]) ++ pairsF k' yb eb = pairs xs by
          have h1 := HA.out
          unfold pairsF at h1
          rw [if_pos ⟨hl, rfl⟩, HIT.out] at h1
          rw [← h1]; simp)
        clear hJ3 kt3
        gi_wp2
        go_roundw
        case rel => exact ⟨pre ++ [(va, vb)], yb, eb, k', HJ3.out, HR3.out, by omega, HB3.out, HA3.out, fun h => by have := HDC.out h; have := HK.out trivial; omega, by omega⟩
        case measure =>
          rw [HR3.out.measure, HM.out]
          have := HDC.out
          split
          · rename_i h; have := this h; simp; omega
          · simp
      · have te : (e == 0) = false := by simpa using he
        have hS := pairsF_stop k ys e (fun h => he h.2)
        have HA2 := Lib.hid (show pre = pairs xs by rw [← HA.out, hS, List.append_nil])
        clear hS
        gi_wp2_with fail
        refine ⟨trivial, rfl, (callsIn_wide.2 hL).mono ?_⟩
        rintro en w' ⟨rfl, rfl⟩
        gi_wp2_with fail
        refine ⟨trivial, rfl, (callsIn_wide.2 hE).mono ?_⟩
        rintro en w' ⟨rfl, rfl⟩
        gi_wp2
        go_end0
        exact ⟨⟨_, rfl⟩, HA2.out ▸ hj⟩
    · have tl : decide (0 < (ys.length : Int)) = false := decide_eq_false (by omega)
      have hS := pairsF_stop k ys e (fun h => hl h.1)
      have HA2 := Lib.hid (show pre = pairs xs by rw [← HA.out, hS, List.append_nil])
      clear hS
      gi_wp2_with fail
      refine ⟨trivial, rfl, (callsIn_wide.2 hL).mono ?_⟩
      rintro en w' ⟨rfl, rfl⟩
      gi_wp2
      refine ⟨trivial, ?_⟩
      gi_wp2
      go_end0
      exact ⟨⟨_, rfl⟩, HA2.out ▸ hj⟩
end Go.Proofs.YtgmdcmkokdbeoaaDoor
