/- The plain law: leaves, pairs, steps, paths. -/
import Derived.Test.YtgmdcmkokdbeoaaDoorLawA
set_option linter.unusedVariables false
set_option linter.unusedSimpArgs false
namespace Go.Proofs.YtgmdcmkokdbeoaaDoor
open Go.RowKit

theorem be_foldl (xs : List UInt8) : ∀ n, xs.foldl (fun n c => n * 256 + c.toNat) n = n * 256 ^ xs.length + be xs := by
  induction xs with
  | nil => intro n; simp [be]
  | cons x xs ih =>
    intro n
    have h1 := ih (n * 256 + x.toNat)
    have h2 := ih (0 * 256 + x.toNat)
    simp only [be, List.foldl_cons, List.length_cons] at *
    rw [h1, h2, Nat.pow_succ]
    have : (n * 256 + x.toNat) * 256 ^ xs.length = n * (256 ^ xs.length * 256) + x.toNat * 256 ^ xs.length := by
      rw [Nat.add_mul, Nat.mul_assoc, Nat.mul_comm 256]
    rw [this]
    simp only [Nat.zero_mul, Nat.zero_add]
    omega
theorem be_cons (x : UInt8) (xs : List UInt8) : be (x :: xs) = x.toNat * 256 ^ xs.length + be xs := by
  have := be_foldl xs (0 * 256 + x.toNat)
  simp only [be, List.foldl_cons] at *
  rw [this]; simp [be]
theorem beB_be (xs : List UInt8) : beB xs.length (be xs) = xs := by
  induction xs with
  | nil => rfl
  | cons x xs ih =>
    have hb := be_lt xs
    have hp : 0 < 256 ^ xs.length := Nat.pow_pos (by omega)
    simp only [List.length_cons, beB]
    have h1 : be (x :: xs) / 256 ^ xs.length = x.toNat := by
      rw [be_cons, Nat.add_comm, Nat.add_mul_div_right _ _ hp, Nat.div_eq_of_lt hb, Nat.zero_add]
    rw [h1]
    congr 1
    · simp
    · have : ∀ s n m, beB s (n + m * 256 ^ s) = beB s n := by
        intro s
        induction s with
        | zero => intro n m; rfl
        | succ s ihs =>
          intro n m
          simp only [beB]
          have e1 : (n + m * 256 ^ (s + 1)) / 256 ^ s = n / 256 ^ s + m * 256 := by
            rw [Nat.pow_succ, show m * (256 ^ s * 256) = (m * 256) * 256 ^ s by rw [Nat.mul_comm (256 ^ s), Nat.mul_assoc], Nat.add_mul_div_right _ _ (Nat.pow_pos (by omega))]
          rw [e1]
          congr 1
          · apply UInt8.toNat_inj.1
            simp
          · rw [Nat.pow_succ, show m * (256 ^ s * 256) = (m * 256) * 256 ^ s by rw [Nat.mul_comm (256 ^ s), Nat.mul_assoc]]
            exact ihs n (m * 256)
      rw [be_cons, Nat.add_comm, this]
      exact ih
theorem be_beB (s n : Nat) (h : n < 256 ^ s) : be (beB s n) = n := by
  induction s generalizing n with
  | zero => simp at h; subst h; rfl
  | succ s ih =>
    simp only [beB]
    rw [be_cons, beB_length]
    have hp : 0 < 256 ^ s := Nat.pow_pos (by omega)
    have hd : n / 256 ^ s < 256 := by
      rw [Nat.div_lt_iff_lt_mul hp, Nat.mul_comm, ← Nat.pow_succ]; exact h
    have e : beB s n = beB s (n % 256 ^ s) := by
      have : ∀ s n m, beB s (n + m * 256 ^ s) = beB s n := by
        intro s
        induction s with
        | zero => intro n m; rfl
        | succ s ihs =>
          intro n m
          simp only [beB]
          have e1 : (n + m * 256 ^ (s + 1)) / 256 ^ s = n / 256 ^ s + m * 256 := by
            rw [Nat.pow_succ, show m * (256 ^ s * 256) = (m * 256) * 256 ^ s by rw [Nat.mul_comm (256 ^ s), Nat.mul_assoc], Nat.add_mul_div_right _ _ (Nat.pow_pos (by omega))]
          rw [e1]
          congr 1
          · apply UInt8.toNat_inj.1
            simp
          · rw [Nat.pow_succ, show m * (256 ^ s * 256) = (m * 256) * 256 ^ s by rw [Nat.mul_comm (256 ^ s), Nat.mul_assoc]]
            exact ihs n (m * 256)
      have h2 := this s (n % 256 ^ s) (n / 256 ^ s)
      rw [Nat.mod_add_div' n (256 ^ s)] at h2
      exact h2
    rw [e, ih _ (Nat.mod_lt _ hp)]
    have : (UInt8.ofNat (n / 256 ^ s)).toNat = n / 256 ^ s := by simp; omega
    rw [this]
    exact Nat.div_add_mod' n (256 ^ s)

theorem endOf_zero (xs : List UInt8) (e : Int) : endOf xs e = 0 ↔ e = 0 ∧ xs = [] := by
  unfold endOf
  by_cases h : e = 0
  · subst h
    rcases xs with _ | ⟨x, xs⟩ <;> simp
  · simp [h]
theorem hd_cons (x : UInt8) (xs : List UInt8) : hd (x :: xs) = x.toNat := rfl
theorem beB_one (n : Nat) : beB 1 n = [UInt8.ofNat n] := by simp [beB]
theorem vecB_pos (x : List UInt8) : 0 < (vecB x).length := by
  unfold vecB lenB
  rw [List.length_append]
  split
  · rw [beB_length]; omega
  · split
    · rw [beB_length]; omega
    · rw [beB_length]; omega

/-- What was written as a vector is read. -/
theorem lnv_lenB (n : Nat) (hn : n ≤ 65536) (t : List UInt8) : lnv (lenB n ++ t) = (n, (lenB n).length, 0) := by
  unfold lenB
  by_cases h1 : n < 64
  · rw [if_pos h1, beB_one]
    have e : (UInt8.ofNat n).toNat = n := by simp; omega
    simp only [lnv, List.cons_append, List.nil_append, List.length_cons, hd_cons, e]
    rw [if_neg (by omega), if_pos (by omega)]
    simp [be, e]; omega
  · rw [if_neg h1]
    by_cases h2 : n < 16384
    · rw [if_pos h2]
      have hl : (beB 2 (n + 16384)).length = 2 := beB_length _ _
      have hb : be (beB 2 (n + 16384)) = n + 16384 := be_beB 2 _ (by omega)
      have hh : hd (beB 2 (n + 16384) ++ t) = (n + 16384) / 256 := by
        simp only [beB, List.cons_append, hd_cons]; simp; omega
      have ht : (beB 2 (n + 16384) ++ t).take 2 = beB 2 (n + 16384) := by rw [← hl]; exact List.take_left
      simp only [lnv, List.length_append, hl, hh, ht, hb]
      rw [if_neg (by omega), if_neg (by omega), if_pos (by omega), if_neg (by omega), if_neg (by omega)]
      simp; omega
    · rw [if_neg h2]
      have hl : (beB 4 (n + 2147483648)).length = 4 := beB_length _ _
      have hb : be (beB 4 (n + 2147483648)) = n + 2147483648 := be_beB 4 _ (by omega)
      have hh : hd (beB 4 (n + 2147483648) ++ t) = (n + 2147483648) / 16777216 := by
        simp only [beB, List.cons_append, hd_cons]; simp; omega
      have ht : (beB 4 (n + 2147483648) ++ t).take 4 = beB 4 (n + 2147483648) := by rw [← hl]; exact List.take_left
      simp only [lnv, List.length_append, hl, hh, ht, hb]
      rw [if_neg (by omega), if_neg (by omega), if_neg (by omega), if_pos (by omega), if_neg (by omega), if_neg (by omega)]
      simp; omega
theorem v1_vecB (x r : List UInt8) (hx : x.length ≤ 65536) : v1 (vecB x ++ r) 0 = (x, r, 0) := by
  have h := lnv_lenB x.length hx (x ++ r)
  unfold v1 vc vecB
  rw [List.append_assoc, h]
  simp only
  rw [if_neg (by simp), if_neg (by simp), if_neg (by omega)]
  rw [List.drop_left, if_neg (by rw [List.length_append]; omega), List.take_left, List.drop_left]
theorem v1_err (xs : List UInt8) (e : Int) (h : (v1 xs e).2.2 = 0) : e = 0 := by
  unfold v1 at h
  by_cases h0 : e = 0
  · exact h0
  · rw [if_pos h0] at h; exact h
theorem n1_err (xs : List UInt8) (e : Int) (h : (n1 xs e).2.2 = 0) : e = 0 := by
  unfold n1 at h
  by_cases h0 : e = 0
  · exact h0
  · rw [if_pos h0] at h; exact h
theorem lnv_inv (xs : List UInt8) (h : (lnv xs).2.2 = 0) : xs = lenB (lnv xs).1 ++ xs.drop (lnv xs).2.1 := by
  rcases xs with _ | ⟨x, xs⟩
  · simp [lnv] at h
  · have hx : x.toNat < 256 := x.toNat_lt
    have hh : hd (x :: xs) = x.toNat := rfl
    have hlen : (x :: xs).length = xs.length + 1 := rfl
    unfold lnv at h ⊢
    rw [if_neg (by omega)] at h ⊢
    by_cases h0 : hd (x :: xs) / 64 = 0
    · rw [if_pos h0]
      have e : be ((x :: xs).take 1) % 64 = x.toNat := by simp [be]; omega
      simp only [e]
      unfold lenB
      rw [if_pos (by omega), beB_one]
      simp
    · rw [if_neg h0] at h ⊢
      by_cases h1 : hd (x :: xs) / 64 = 1
      · rw [if_pos h1] at h ⊢
        by_cases h2 : (x :: xs).length < 2
        · rw [if_pos h2] at h; simp at h
        · rw [if_neg h2] at h ⊢
          by_cases h3 : be ((x :: xs).take 2) % 16384 < 64
          · rw [if_pos h3] at h; simp at h
          · rw [if_neg h3] at h ⊢
            have hl : ((x :: xs).take 2).length = 2 := by rw [List.length_take, List.length_cons]; omega
            have hb : be ((x :: xs).take 2) = x.toNat * 256 + be (xs.take 1) := by
              rw [List.take_succ_cons, be_cons, List.length_take]
              rw [show min 1 xs.length = 1 by omega]
            have hb1 := be_lt (xs.take 1)
            rw [List.length_take, show min 1 xs.length = 1 by omega] at hb1
            simp only
            have e : lenB (be ((x :: xs).take 2) % 16384) = (x :: xs).take 2 := by
              unfold lenB
              rw [if_neg (by omega), if_pos (by omega)]
              have := beB_be ((x :: xs).take 2)
              rw [hl] at this
              rw [show be ((x :: xs).take 2) % 16384 + 16384 = be ((x :: xs).take 2) by omega]
              exact this
            rw [e, List.take_append_drop]
      · rw [if_neg h1] at h ⊢
        by_cases h2 : hd (x :: xs) / 64 = 2
        · rw [if_pos h2] at h ⊢
          by_cases h3 : (x :: xs).length < 4
          · rw [if_pos h3] at h; simp at h
          · rw [if_neg h3] at h ⊢
            by_cases h4 : be ((x :: xs).take 4) % 1073741824 < 16384
            · rw [if_pos h4] at h; simp at h
            · rw [if_neg h4] at h ⊢
              have hl : ((x :: xs).take 4).length = 4 := by rw [List.length_take, List.length_cons]; omega
              have hb : be ((x :: xs).take 4) = x.toNat * 16777216 + be (xs.take 3) := by
                rw [List.take_succ_cons, be_cons, List.length_take]
                rw [show min 3 xs.length = 3 by omega]
              have hb1 := be_lt (xs.take 3)
              rw [List.length_take, show min 3 xs.length = 3 by omega] at hb1
              simp only
              have e : lenB (be ((x :: xs).take 4) % 1073741824) = (x :: xs).take 4 := by
                unfold lenB
                rw [if_neg (by omega), if_neg (by omega)]
                have := beB_be ((x :: xs).take 4)
                rw [hl] at this
                rw [show be ((x :: xs).take 4) % 1073741824 + 2147483648 = be ((x :: xs).take 4) by omega]
                exact this
              rw [e, List.take_append_drop]
        · rw [if_neg h2] at h; simp at h
/-- What is read as a vector was written so. -/
theorem v1_inv (xs y r : List UInt8) (h : v1 xs 0 = (y, r, 0)) : xs = vecB y ++ r ∧ y.length ≤ 65536 := by
  unfold v1 at h
  rw [if_neg (by simp)] at h
  unfold vc at h
  by_cases h1 : (lnv xs).2.2 = 0
  · rw [if_neg (by simpa using h1)] at h
    by_cases h2 : 65536 < (lnv xs).1
    · rw [if_pos h2] at h; simp at h
    · rw [if_neg h2] at h
      by_cases h3 : (xs.drop (lnv xs).2.1).length < (lnv xs).1
      · rw [if_pos h3] at h; simp at h
      · rw [if_neg h3] at h
        injection h with ha hb
        injection hb with hb _
        have hl : y.length = (lnv xs).1 := by rw [← ha, List.length_take]; omega
        have hi := lnv_inv xs h1
        refine ⟨?_, by omega⟩
        unfold vecB
        rw [hl, ← ha, ← hb, List.append_assoc, List.take_append_drop]
        exact hi
  · rw [if_pos h1] at h
    injection h with _ h
    injection h with _ h
    exact absurd h h1

theorem joinV_one (x : List UInt8) : joinV [x] = vecB x := by simp [joinV]
theorem joinV_two (x y : List UInt8) : joinV [x, y] = vecB x ++ vecB y := by simp [joinV]
theorem joinV_three (x y z : List UInt8) : joinV [x, y, z] = vecB x ++ (vecB y ++ vecB z) := by simp [joinV]
theorem n1_cons (b : UInt8) (r : List UInt8) : n1 (b :: r) 0 = ((b.toNat : Int), r, (0 : Int)) := by
  simp [n1, be]
theorem n1_inv (xs r : List UInt8) (d : Int) (h : n1 xs 0 = (d, r, 0)) : ∃ b : UInt8, xs = b :: r ∧ d = b.toNat := by
  rcases xs with _ | ⟨b, xs⟩
  · simp [n1] at h
  · rw [n1_cons] at h
    injection h with h1 h2
    injection h2 with h2 _
    exact ⟨b, by rw [h2], h1.symm⟩

/-- A leaf that was written is read. -/
theorem rdLeaf_put (l : LeafD) (hl : rightL l) : rdLeaf (putLeafB l) = (l, [], 0) := by
  obtain ⟨h0, h1, h2, ⟨h3, h4, h5, h6⟩, h7⟩ := hl
  obtain ⟨SN, hSN⟩ : ∃ SN : Nat, l.src = SN := ⟨l.src.toNat, by omega⟩
  have hb : (UInt8.ofNat SN).toNat = SN := by simp; omega
  unfold putLeafB leafB
  rw [hSN, Int.toNat_natCast, beB_one]
  by_cases h : (SN : Int) = 3
  · rw [if_pos h, joinV_three, joinV_one, joinV_one]
    simp only [List.append_assoc, List.cons_append, List.nil_append]
    unfold rdLeaf
    simp only [v1_vecB _ _ (show l.enc.length ≤ 65536 by omega), v1_vecB _ _ (show l.sig.length ≤ 65536 by omega), v1_vecB _ _ (show l.name.length ≤ 65536 by omega), n1_cons, hb, if_pos h, v1_vecB _ _ (show l.hash.length ≤ 65536 by omega)]
    have e := v1_vecB l.sgn [] (by omega)
    rw [List.append_nil] at e
    rw [e, ← hSN]
  · have hh : l.hash = [] := List.eq_nil_of_length_eq_zero (by omega)
    rw [if_neg h, joinV_three, joinV_one]
    simp only [List.append_assoc, List.cons_append, List.nil_append, List.append_nil]
    unfold rdLeaf
    simp only [v1_vecB _ _ (show l.enc.length ≤ 65536 by omega), v1_vecB _ _ (show l.sig.length ≤ 65536 by omega), v1_vecB _ _ (show l.name.length ≤ 65536 by omega), n1_cons, hb, if_neg h]
    have e := v1_vecB l.sgn [] (by omega)
    rw [List.append_nil] at e
    rw [e, ← hSN, ← hh]
/-- A leaf that is read was written so. -/
theorem rdLeaf_inv (xs : List UInt8) (h : endOf (rdLeaf xs).2.1 (rdLeaf xs).2.2 = 0) : putLeafB (rdLeaf xs).1 = xs := by
  rw [endOf_zero] at h
  obtain ⟨he, hr⟩ := h
  unfold rdLeaf at he hr ⊢
  rcases hA : v1 xs 0 with ⟨a, ya, ea⟩
  rw [hA] at he hr
  rcases hB : v1 ya ea with ⟨b, yb, eb⟩
  simp only [hB] at he hr ⊢
  rcases hC : v1 yb eb with ⟨c, yc, ec⟩
  simp only [hC] at he hr ⊢
  rcases hD : n1 yc ec with ⟨d, yd, ed⟩
  simp only [hD] at he hr ⊢
  have back : ed = 0 → xs = vecB a ++ (vecB b ++ (vecB c ++ yc)) ∧ ∃ q : UInt8, yc = q :: yd ∧ d = q.toNat := by
    intro h0
    subst h0
    have e3 := n1_err yc ec (by rw [hD])
    subst e3
    have e2 := v1_err yb eb (by rw [hC])
    subst e2
    have e1 := v1_err ya ea (by rw [hB])
    subst e1
    have i1 := (v1_inv _ _ _ hA).1
    have i2 := (v1_inv _ _ _ hB).1
    have i3 := (v1_inv _ _ _ hC).1
    exact ⟨by rw [i1, i2, i3], n1_inv _ _ _ hD⟩
  by_cases h3 : d = 3
  · simp only [if_pos h3] at he hr ⊢
    rcases hE : v1 yd ed with ⟨hh, yh, eh⟩
    simp only [hE] at he hr ⊢
    rcases hF : v1 yh eh with ⟨s, ys, es⟩
    simp only [hF] at he hr ⊢
    subst he hr
    have e5 := v1_err yh eh (by rw [hF])
    subst e5
    have e4 := v1_err yd ed (by rw [hE])
    obtain ⟨i0, q, i1, i2⟩ := back e4
    subst e4
    have i4 := (v1_inv _ _ _ hE).1
    have i5 := (v1_inv _ _ _ hF).1
    unfold putLeafB leafB
    simp only [if_pos h3, joinV_three, joinV_one]
    rw [i0, i1, i4, i5, i2, Int.toNat_natCast, beB_one]
    simp
  · simp only [if_neg h3] at he hr ⊢
    rcases hF : v1 yd ed with ⟨s, ys, es⟩
    simp only [hF] at he hr ⊢
    subst he hr
    have e4 := v1_err yd ed (by rw [hF])
    obtain ⟨i0, q, i1, i2⟩ := back e4
    subst e4
    have i5 := (v1_inv _ _ _ hF).1
    unfold putLeafB leafB
    simp only [if_neg h3, joinV_three, joinV_one]
    rw [i0, i1, i5, i2, Int.toNat_natCast, beB_one]
    simp

theorem itStep_enc (a b r : List UInt8) (ha : a.length ≤ 65536) (hb : b.length ≤ 65536) : itStep (joinV [a, b] ++ r) = ((a, b), r, 0) := by
  rw [joinV_two, List.append_assoc]
  simp [itStep, v1_vecB _ _ ha, v1_vecB _ _ hb]
theorem itStep_inv (xs a b r : List UInt8) (h : itStep xs = ((a, b), r, 0)) : xs = joinV [a, b] ++ r := by
  unfold itStep at h
  rcases hA : v1 xs 0 with ⟨a', y, e⟩
  rw [hA] at h
  simp only at h
  rcases hB : v1 y e with ⟨b', z, f⟩
  rw [hB] at h
  simp only [Prod.mk.injEq] at h
  obtain ⟨⟨rfl, rfl⟩, rfl, rfl⟩ := h
  have e1 := v1_err y e (by rw [hB])
  subst e1
  rw [joinV_two, List.append_assoc, ← (v1_inv _ _ _ hB).1]
  exact (v1_inv _ _ _ hA).1
theorem sealsB_cons (s : SealD) (ss : List SealD) : sealsB (s :: ss) = joinV [s.1, s.2] ++ sealsB ss := by simp [sealsB]
theorem sealsB_pos (s : SealD) (ss : List SealD) : 0 < (sealsB (s :: ss)).length := by
  rw [sealsB_cons, joinV_two, List.append_assoc, List.length_append]
  have := vecB_pos s.1
  omega
/-- Pairs that were written are read. -/
theorem pairs_seals (ss : List SealD) (h : ∀ s ∈ ss, s.1.length ≤ 65536 ∧ s.2.length ≤ 65536) : pairs (sealsB ss) = ss ∧ rdEnd (sealsB ss) = ([], 0) := by
  induction ss with
  | nil => exact ⟨rfl, rfl⟩
  | cons s ss ih =>
    obtain ⟨i1, i2⟩ := ih (fun x hx => h x (List.mem_cons_of_mem _ hx))
    obtain ⟨h1, h2⟩ := h s List.mem_cons_self
    have hp := sealsB_pos s ss
    unfold pairs rdEnd
    rw [pairsF_step _ hp, rdEndF_step _ hp, sealsB_cons, itStep_enc _ _ _ h1 h2]
    exact ⟨by rw [show pairsF (sealsB ss).length (sealsB ss) 0 = ss from i1], i2⟩
/-- Pairs that are read were written so. -/
theorem seals_pairs (n : Nat) : ∀ xs : List UInt8, xs.length ≤ n → rdEnd xs = ([], 0) → sealsB (pairs xs) = xs := by
  induction n with
  | zero =>
    intro xs hn _
    have : xs = [] := List.eq_nil_of_length_eq_zero (by omega)
    subst this; rfl
  | succ n ih =>
    intro xs hn h
    rcases Nat.eq_zero_or_pos xs.length with h0 | hp
    · have : xs = [] := List.eq_nil_of_length_eq_zero h0
      subst this; rfl
    · unfold rdEnd at h
      unfold pairs
      rw [rdEndF_step _ hp] at h
      rw [pairsF_step _ hp]
      rcases hI : itStep xs with ⟨⟨a, b⟩, r, e⟩
      rw [hI] at h
      simp only at h ⊢
      by_cases he : e = 0
      · subst he
        have hd := itStep_dec xs (by rw [hI])
        rw [hI] at hd
        simp only at hd
        rw [sealsB_cons, show sealsB (pairsF r.length r 0) = r from ih r (by omega) h]
        exact (itStep_inv _ _ _ _ hI).symm
      · rw [rdEndF_stop _ _ _ (by simp [he])] at h
        injection h with _ h
        exact absurd h he
theorem tOk_iff (xs : List UInt8) : tOk xs = true ↔ rdEnd xs = ([], 0) := by
  unfold tOk
  rw [decide_eq_true_eq, endOf_zero]
  constructor
  · rintro ⟨h1, h2⟩; exact Prod.ext h2 h1
  · intro h; rw [h]; exact ⟨rfl, rfl⟩

theorem stepsB_cons (s : StepD) (ss : List StepD) : stepsB (s :: ss) = joinV [s.1, sealsB s.2] ++ stepsB ss := by simp [stepsB]
theorem stepsB_pos (s : StepD) (ss : List StepD) : 0 < (stepsB (s :: ss)).length := by
  rw [stepsB_cons, joinV_two, List.append_assoc, List.length_append]
  have := vecB_pos s.1
  omega
theorem step_small {s : StepD} (h : stepBad s = false) : s.1.length ≤ 65536 ∧ (sealsB s.2).length ≤ 65536 ∧ ∀ y ∈ s.2, y.1.length ≤ 65536 ∧ y.2.length ≤ 65536 := by
  obtain ⟨h1, h2, h3⟩ := stepBad_no h
  have h4 := sealsB_le h3 h2
  refine ⟨by omega, by omega, fun y hy => ?_⟩
  have := sealBad_no (any_mem h3 hy)
  omega
theorem steps_read (ss : List StepD) (h : ∀ s ∈ ss, stepBad s = false) : stepsOf (pairs (stepsB ss)) = ss ∧ stepsR (stepsB ss) true = (ss, true) := by
  induction ss with
  | nil => exact ⟨rfl, rfl⟩
  | cons s ss ih =>
    obtain ⟨i1, i2⟩ := ih (fun x hx => h x (List.mem_cons_of_mem _ hx))
    obtain ⟨h1, h2, h3⟩ := step_small (h s List.mem_cons_self)
    obtain ⟨p1, p2⟩ := pairs_seals s.2 h3
    have hp := stepsB_pos s ss
    have ht := (tOk_iff _).2 p2
    constructor
    · unfold pairs
      rw [pairsF_step _ hp, stepsB_cons, itStep_enc _ _ _ h1 h2]
      show (s.1, pairs (sealsB s.2)) :: stepsOf (pairs (stepsB ss)) = _
      rw [i1, p1]
    · rw [stepsR_step _ hp, stepsB_cons, itStep_enc _ _ _ h1 h2, p1, ht]
      simp [i2]
theorem steps_written (n : Nat) : ∀ xs : List UInt8, xs.length ≤ n → (stepsR xs true).2 = true → stepsB (stepsR xs true).1 = xs := by
  induction n with
  | zero =>
    intro xs hn _
    have : xs = [] := List.eq_nil_of_length_eq_zero (by omega)
    subst this; rfl
  | succ n ih =>
    intro xs hn h
    rcases Nat.eq_zero_or_pos xs.length with h0 | hp
    · have : xs = [] := List.eq_nil_of_length_eq_zero h0
      subst this; rfl
    · rw [stepsR_step _ hp] at h ⊢
      rcases hI : itStep xs with ⟨⟨a, b⟩, r, e⟩
      rw [hI] at h
      simp only at h ⊢
      rcases hok : (decide (e = 0) && tOk b) with _ | _
      · rw [hok, stepsR_stop _ _ (by simp)] at h
        cases h
      · rw [hok] at h
        rw [Bool.and_eq_true, decide_eq_true_eq] at hok
        obtain ⟨he, ht⟩ := hok
        subst he
        have hd := itStep_dec xs (by rw [hI])
        rw [hI] at hd
        simp only at hd
        rw [stepsB_cons, ih r (by omega) h, seals_pairs b.length b (Nat.le_refl _) ((tOk_iff _).1 ht)]
        exact (itStep_inv _ _ _ _ hI).symm

theorem rightP_parts {l : LeafD} {ss : List StepD} (h : rightP l ss = true) : rightL l ∧ ss.length ≤ 6 ∧ ∀ s ∈ ss, stepBad s = false := by
  simp only [rightP, Bool.and_eq_true, decide_eq_true_eq, Bool.not_eq_true'] at h
  exact ⟨h.1.1.1, h.1.2, fun s hs => any_mem h.2 hs⟩
theorem putLeafB_le {l : LeafD} (hl : rightL l) : (putLeafB l).length ≤ 400 := by
  have h1 := leafB_le l hl
  have := joinV_le [l.sgn] 64 (by intro x hx; simp at hx; subst hx; have := hl.2.2.1; omega)
  simp only [List.length_cons, List.length_nil] at this
  unfold putLeafB
  rw [List.length_append]; omega
/-- A path that may be, written: both read it. -/
theorem path_read {l : LeafD} {ss : List StepD} (h : rightP l ss = true) :
    rA (pathB l ss) = (putLeafB l, vecB (stepsB ss), 0) ∧ rB (pathB l ss) = (stepsB ss, [], 0) ∧ rdPathL (pathB l ss) = l ∧ rdPathS (pathB l ss) = ss ∧ rSt (pathB l ss) = (ss, true) ∧ okLeafR (putLeafB l) ∧ (rdLeaf (putLeafB l)).1 = l := by
  obtain ⟨hl, h6, hs⟩ := rightP_parts h
  have hn : ss.any stepBad = false := by
    rw [List.any_eq_false]
    intro x hx; rw [hs x hx]; simp
  have hA : rA (pathB l ss) = (putLeafB l, vecB (stepsB ss), 0) := by
    unfold rA pathB
    rw [joinV_two]
    exact v1_vecB _ _ (by have := putLeafB_le hl; omega)
  have hB : rB (pathB l ss) = (stepsB ss, [], 0) := by
    unfold rB
    rw [hA]
    have e := v1_vecB (stepsB ss) [] (by have := stepsB_le hn h6; omega)
    rw [List.append_nil] at e
    exact e
  have hr := rdLeaf_put l hl
  have hok : okLeafR (putLeafB l) := by
    unfold okLeafR
    rw [hr]
    exact ⟨rfl, hl⟩
  have hg : getLeafL (putLeafB l) = l := by
    have : okRead (putLeafB l) := by
      unfold okRead gotOk
      rw [hr]
      exact ⟨rfl, hl, rfl⟩
    unfold getLeafL
    rw [if_pos this, hr]
  refine ⟨hA, hB, ?_, ?_, ?_, hok, by rw [hr]⟩
  · unfold rdPathL
    rw [show v1 (pathB l ss) 0 = rA (pathB l ss) from rfl, hA]
    exact hg
  · unfold rdPathS
    rw [show v1 (v1 (pathB l ss) 0).2.1 (v1 (pathB l ss) 0).2.2 = rB (pathB l ss) from rfl, hB]
    exact (steps_read ss hs).1
  · unfold rSt rOk0
    rw [hB]
    exact (steps_read ss hs).2
theorem okPath_put {l : LeafD} {ss : List StepD} (h : rightP l ss = true) : okPath (pathB l ss) := by
  obtain ⟨_, _, h3, h4, _⟩ := path_read h
  unfold okPath
  rw [h3, h4]
  exact ⟨h, rfl⟩
/-- What the reference takes was written so. -/
theorem ref_written {bs : List UInt8} (h : refOk bs) : pathB (rdLeaf (rA bs).1).1 (rSt bs).1 = bs := by
  obtain ⟨h1, h2, h3⟩ := h
  have hok : rOk0 bs = true := by
    rcases hq : rOk0 bs with _ | _
    · unfold rSt at h2
      rw [hq, stepsR_stop _ _ (by simp)] at h2
      cases h2
    · rfl
  unfold rSt at h2 ⊢
  rw [hok] at h2 ⊢
  have hw := steps_written _ _ (Nat.le_refl _) h2
  unfold rOk0 at hok
  rw [show (endOf (rB bs).2.1 (rB bs).2.2 == 0) = decide (endOf (rB bs).2.1 (rB bs).2.2 = 0) from rfl, decide_eq_true_eq, endOf_zero] at hok
  obtain ⟨e1, e2⟩ := hok
  have e3 := v1_err _ _ (show (v1 (rA bs).2.1 (rA bs).2.2).2.2 = 0 from e1)
  have iA := (v1_inv bs (rA bs).1 (rA bs).2.1 (Prod.ext rfl (Prod.ext rfl e3))).1
  have hBd : v1 (rA bs).2.1 0 = ((rB bs).1, [], 0) := by
    have : v1 (rA bs).2.1 (rA bs).2.2 = rB bs := rfl
    rw [e3] at this
    rw [this]
    exact Prod.ext rfl (Prod.ext e2 e1)
  have iB := (v1_inv _ _ _ hBd).1
  unfold pathB
  rw [joinV_two, rdLeaf_inv _ h1.1, hw]
  rw [List.append_nil] at iB
  rw [← iB]
  exact iA.symm
/-- The program's and the reference's answers to any bytes. -/
theorem path_same (bs : List UInt8) : getPathL bs = refL bs ∧ getPathS bs = refS bs ∧ getPathE bs = refE bs := by
  have iff : okPath bs ↔ refOk bs := by
    constructor
    · intro h
      obtain ⟨h1, h2⟩ := h
      obtain ⟨a1, a2, a3, a4, a5, a6, a7⟩ := path_read h1
      rw [h2] at a1 a2 a3 a4 a5
      unfold refOk
      rw [a1, a5]
      exact ⟨a6, rfl, by simp only; rw [a7]; exact h1⟩
    · intro h
      have hw := ref_written h
      have := okPath_put h.2.2
      rw [hw] at this
      exact this
  by_cases h : refOk bs
  · have h' := iff.2 h
    have hw := ref_written h
    obtain ⟨a1, a2, a3, a4, a5, a6, a7⟩ := path_read h.2.2
    rw [hw] at a1 a2 a3 a4 a5
    simp only [getPathL, getPathS, getPathE, refL, refS, refE, if_pos h, if_pos h']
    exact ⟨a3, a4, trivial⟩
  · have h' : ¬ okPath bs := fun h' => h (iff.1 h')
    simp only [getPathL, getPathS, getPathE, refL, refS, refE, if_neg h, if_neg h']
    exact ⟨trivial, trivial, trivial⟩
theorem path_back {l : LeafD} {ss : List StepD} (h : rightP l ss = true) : getPathL (pathB l ss) = l ∧ getPathS (pathB l ss) = ss ∧ getPathE (pathB l ss) = 0 := by
  obtain ⟨_, _, h3, h4, _⟩ := path_read h
  have := okPath_put h
  simp only [getPathL, getPathS, getPathE, if_pos this]
  exact ⟨h3, h4, trivial⟩
theorem path_forth {bs : List UInt8} (h : getPathE bs = 0) : rightP (getPathL bs) (getPathS bs) = true ∧ pathB (getPathL bs) (getPathS bs) = bs := by
  have hk : okPath bs := by
    unfold getPathE at h
    by_cases hk : okPath bs
    · exact hk
    · rw [if_neg hk] at h; cases h
  simp only [getPathL, getPathS, if_pos hk]
  exact hk
end Go.Proofs.YtgmdcmkokdbeoaaDoor
