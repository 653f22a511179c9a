/- The plain law: what is written is read, and what is read was written so. -/
import Derived.Test.YtgmdcmkokdbeoaaDoorLawA
set_option linter.unusedVariables false
set_option linter.unusedSimpArgs false
namespace Go.Proofs.YtgmdcmkokdbeoaaDoor
open Go.RowKit

theorem be_foldl (xs : List UInt8) : ∀ n, xs.foldl (fun n c => n * 256 + c.toNat) n = n * 256 ^ xs.length + be xs := by
  induction xs with
  | nil => intro n; simp [be]
  | cons x xs ih =>
    intro n
    have h1 := ih (n * 256 + x.toNat)
    have h2 := ih (0 * 256 + x.toNat)
    simp only [be, List.foldl_cons, List.length_cons] at *
    rw [h1, h2, Nat.pow_succ]
    have : (n * 256 + x.toNat) * 256 ^ xs.length = n * (256 ^ xs.length * 256) + x.toNat * 256 ^ xs.length := by
      rw [Nat.add_mul, Nat.mul_assoc, Nat.mul_comm 256]
    rw [this]
    simp only [Nat.zero_mul, Nat.zero_add]
    omega
theorem be_cons (x : UInt8) (xs : List UInt8) : be (x :: xs) = x.toNat * 256 ^ xs.length + be xs := by
  have := be_foldl xs (0 * 256 + x.toNat)
  simp only [be, List.foldl_cons] at *
  rw [this]; simp [be]
theorem beB_be (xs : List UInt8) : beB xs.length (be xs) = xs := by
  induction xs with
  | nil => rfl
  | cons x xs ih =>
    have hb := be_lt xs
    have hp : 0 < 256 ^ xs.length := Nat.pow_pos (by omega)
    simp only [List.length_cons, beB]
    have h1 : be (x :: xs) / 256 ^ xs.length = x.toNat := by
      rw [be_cons, Nat.add_comm, Nat.add_mul_div_right _ _ hp, Nat.div_eq_of_lt hb, Nat.zero_add]
    rw [h1]
    congr 1
    · simp
    · have : ∀ s n m, beB s (n + m * 256 ^ s) = beB s n := by
        intro s
        induction s with
        | zero => intro n m; rfl
        | succ s ihs =>
          intro n m
          simp only [beB]
          have e1 : (n + m * 256 ^ (s + 1)) / 256 ^ s = n / 256 ^ s + m * 256 := by
            rw [Nat.pow_succ, show m * (256 ^ s * 256) = (m * 256) * 256 ^ s by rw [Nat.mul_comm (256 ^ s), Nat.mul_assoc], Nat.add_mul_div_right _ _ (Nat.pow_pos (by omega))]
          rw [e1]
          congr 1
          · apply UInt8.toNat_inj.1
            simp
          · rw [Nat.pow_succ, show m * (256 ^ s * 256) = (m * 256) * 256 ^ s by rw [Nat.mul_comm (256 ^ s), Nat.mul_assoc]]
            exact ihs n (m * 256)
      rw [be_cons, Nat.add_comm, this]
      exact ih
theorem be_beB (s n : Nat) (h : n < 256 ^ s) : be (beB s n) = n := by
  induction s generalizing n with
  | zero => simp at h; subst h; rfl
  | succ s ih =>
    simp only [beB]
    rw [be_cons, beB_length]
    have hp : 0 < 256 ^ s := Nat.pow_pos (by omega)
    have hd : n / 256 ^ s < 256 := by
      rw [Nat.div_lt_iff_lt_mul hp, Nat.mul_comm, ← Nat.pow_succ]; exact h
    have e : beB s n = beB s (n % 256 ^ s) := by
      have : ∀ s n m, beB s (n + m * 256 ^ s) = beB s n := by
        intro s
        induction s with
        | zero => intro n m; rfl
        | succ s ihs =>
          intro n m
          simp only [beB]
          have e1 : (n + m * 256 ^ (s + 1)) / 256 ^ s = n / 256 ^ s + m * 256 := by
            rw [Nat.pow_succ, show m * (256 ^ s * 256) = (m * 256) * 256 ^ s by rw [Nat.mul_comm (256 ^ s), Nat.mul_assoc], Nat.add_mul_div_right _ _ (Nat.pow_pos (by omega))]
          rw [e1]
          congr 1
          · apply UInt8.toNat_inj.1
            simp
          · rw [Nat.pow_succ, show m * (256 ^ s * 256) = (m * 256) * 256 ^ s by rw [Nat.mul_comm (256 ^ s), Nat.mul_assoc]]
            exact ihs n (m * 256)
      have h2 := this s (n % 256 ^ s) (n / 256 ^ s)
      rw [Nat.mod_add_div' n (256 ^ s)] at h2
      exact h2
    rw [e, ih _ (Nat.mod_lt _ hp)]
    have : (UInt8.ofNat (n / 256 ^ s)).toNat = n / 256 ^ s := by simp; omega
    rw [this]
    exact Nat.div_add_mod' n (256 ^ s)

theorem endOf_zero (xs : List UInt8) (e : Int) : endOf xs e = 0 ↔ e = 0 ∧ xs = [] := by
  unfold endOf
  by_cases h : e = 0
  · subst h
    rcases xs with _ | ⟨x, xs⟩ <;> simp
  · simp [h]
theorem hd_cons (x : UInt8) (xs : List UInt8) : hd (x :: xs) = x.toNat := rfl
theorem beB_one (n : Nat) : beB 1 n = [UInt8.ofNat n] := by simp [beB]
theorem vecB_pos (x : List UInt8) : 0 < (vecB x).length := by
  unfold vecB lenB
  rw [List.length_append]
  split
  · rw [beB_length]; omega
  · split
    · rw [beB_length]; omega
    · rw [beB_length]; omega

/-- What was written as a vector is read. -/
theorem lnv_lenB (n : Nat) (hn : n ≤ 65536) (t : List UInt8) : lnv (lenB n ++ t) = (n, (lenB n).length, 0) := by
  unfold lenB
  by_cases h1 : n < 64
  · rw [if_pos h1, beB_one]
    have e : (UInt8.ofNat n).toNat = n := by simp; omega
    simp only [lnv, List.cons_append, List.nil_append, List.length_cons, hd_cons, e]
    rw [if_neg (by omega), if_pos (by omega)]
    simp [be, e]; omega
  · rw [if_neg h1]
    by_cases h2 : n < 16384
    · rw [if_pos h2]
      have hl : (beB 2 (n + 16384)).length = 2 := beB_length _ _
      have hb : be (beB 2 (n + 16384)) = n + 16384 := be_beB 2 _ (by omega)
      have hh : hd (beB 2 (n + 16384) ++ t) = (n + 16384) / 256 := by
        simp only [beB, List.cons_append, hd_cons]; simp; omega
      have ht : (beB 2 (n + 16384) ++ t).take 2 = beB 2 (n + 16384) := by rw [← hl]; exact List.take_left
      simp only [lnv, List.length_append, hl, hh, ht, hb]
      rw [if_neg (by omega), if_neg (by omega), if_pos (by omega), if_neg (by omega), if_neg (by omega)]
      simp; omega
    · rw [if_neg h2]
      have hl : (beB 4 (n + 2147483648)).length = 4 := beB_length _ _
      have hb : be (beB 4 (n + 2147483648)) = n + 2147483648 := be_beB 4 _ (by omega)
      have hh : hd (beB 4 (n + 2147483648) ++ t) = (n + 2147483648) / 16777216 := by
        simp only [beB, List.cons_append, hd_cons]; simp; omega
      have ht : (beB 4 (n + 2147483648) ++ t).take 4 = beB 4 (n + 2147483648) := by rw [← hl]; exact List.take_left
      simp only [lnv, List.length_append, hl, hh, ht, hb]
      rw [if_neg (by omega), if_neg (by omega), if_neg (by omega), if_pos (by omega), if_neg (by omega), if_neg (by omega)]
      simp; omega
theorem v1_vecB (x r : List UInt8) (hx : x.length ≤ 65536) : v1 (vecB x ++ r) 0 = (x, r, 0) := by
  have h := lnv_lenB x.length hx (x ++ r)
  unfold v1 vc vecB
  rw [List.append_assoc, h]
  simp only
  rw [if_neg (by simp), if_neg (by simp), if_neg (by omega)]
  rw [List.drop_left, if_neg (by rw [List.length_append]; omega), List.take_left, List.drop_left]
theorem v1_err (xs : List UInt8) (e : Int) (h : (v1 xs e).2.2 = 0) : e = 0 := by
  unfold v1 at h
  by_cases h0 : e = 0
  · exact h0
  · rw [if_pos h0] at h; exact h
theorem n1_err (xs : List UInt8) (e : Int) (h : (n1 xs e).2.2 = 0) : e = 0 := by
  unfold n1 at h
  by_cases h0 : e = 0
  · exact h0
  · rw [if_pos h0] at h; exact h
theorem lnv_inv (xs : List UInt8) (h : (lnv xs).2.2 = 0) : xs = lenB (lnv xs).1 ++ xs.drop (lnv xs).2.1 := by
  rcases xs with _ | ⟨x, xs⟩
  · simp [lnv] at h
  · have hx : x.toNat < 256 := x.toNat_lt
    have hh : hd (x :: xs) = x.toNat := rfl
    have hlen : (x :: xs).length = xs.length + 1 := rfl
    unfold lnv at h ⊢
    rw [if_neg (by omega)] at h ⊢
    by_cases h0 : hd (x :: xs) / 64 = 0
    · rw [if_pos h0]
      have e : be ((x :: xs).take 1) % 64 = x.toNat := by simp [be]; omega
      simp only [e]
      unfold lenB
      rw [if_pos (by omega), beB_one]
      simp
    · rw [if_neg h0] at h ⊢
      by_cases h1 : hd (x :: xs) / 64 = 1
      · rw [if_pos h1] at h ⊢
        by_cases h2 : (x :: xs).length < 2
        · rw [if_pos h2] at h; simp at h
        · rw [if_neg h2] at h ⊢
          by_cases h3 : be ((x :: xs).take 2) % 16384 < 64
          · rw [if_pos h3] at h; simp at h
          · rw [if_neg h3] at h ⊢
            have hl : ((x :: xs).take 2).length = 2 := by rw [List.length_take, List.length_cons]; omega
            have hb : be ((x :: xs).take 2) = x.toNat * 256 + be (xs.take 1) := by
              rw [List.take_succ_cons, be_cons, List.length_take]
              rw [show min 1 xs.length = 1 by omega]
            have hb1 := be_lt (xs.take 1)
            rw [List.length_take, show min 1 xs.length = 1 by omega] at hb1
            simp only
            have e : lenB (be ((x :: xs).take 2) % 16384) = (x :: xs).take 2 := by
              unfold lenB
              rw [if_neg (by omega), if_pos (by omega)]
              have := beB_be ((x :: xs).take 2)
              rw [hl] at this
              rw [show be ((x :: xs).take 2) % 16384 + 16384 = be ((x :: xs).take 2) by omega]
              exact this
            rw [e, List.take_append_drop]
      · rw [if_neg h1] at h ⊢
        by_cases h2 : hd (x :: xs) / 64 = 2
        · rw [if_pos h2] at h ⊢
          by_cases h3 : (x :: xs).length < 4
          · rw [if_pos h3] at h; simp at h
          · rw [if_neg h3] at h ⊢
            by_cases h4 : be ((x :: xs).take 4) % 1073741824 < 16384
            · rw [if_pos h4] at h; simp at h
            · rw [if_neg h4] at h ⊢
              have hl : ((x :: xs).take 4).length = 4 := by rw [List.length_take, List.length_cons]; omega
              have hb : be ((x :: xs).take 4) = x.toNat * 16777216 + be (xs.take 3) := by
                rw [List.take_succ_cons, be_cons, List.length_take]
                rw [show min 3 xs.length = 3 by omega]
              have hb1 := be_lt (xs.take 3)
              rw [List.length_take, show min 3 xs.length = 3 by omega] at hb1
              simp only
              have e : lenB (be ((x :: xs).take 4) % 1073741824) = (x :: xs).take 4 := by
                unfold lenB
                rw [if_neg (by omega), if_neg (by omega)]
                have := beB_be ((x :: xs).take 4)
                rw [hl] at this
                rw [show be ((x :: xs).take 4) % 1073741824 + 2147483648 = be ((x :: xs).take 4) by omega]
                exact this
              rw [e, List.take_append_drop]
        · rw [if_neg h2] at h; simp at h
/-- What is read as a vector was written so. -/
theorem v1_inv (xs y r : List UInt8) (h : v1 xs 0 = (y, r, 0)) : xs = vecB y ++ r ∧ y.length ≤ 65536 := by
  unfold v1 at h
  rw [if_neg (by simp)] at h
  unfold vc at h
  by_cases h1 : (lnv xs).2.2 = 0
  · rw [if_neg (by simpa using h1)] at h
    by_cases h2 : 65536 < (lnv xs).1
    · rw [if_pos h2] at h; simp at h
    · rw [if_neg h2] at h
      by_cases h3 : (xs.drop (lnv xs).2.1).length < (lnv xs).1
      · rw [if_pos h3] at h; simp at h
      · rw [if_neg h3] at h
        injection h with ha hb
        injection hb with hb _
        have hl : y.length = (lnv xs).1 := by rw [← ha, List.length_take]; omega
        have hi := lnv_inv xs h1
        refine ⟨?_, by omega⟩
        unfold vecB
        rw [hl, ← ha, ← hb, List.append_assoc, List.take_append_drop]
        exact hi
  · rw [if_pos h1] at h
    injection h with _ h
    injection h with _ h
    exact absurd h h1
end Go.Proofs.YtgmdcmkokdbeoaaDoor
