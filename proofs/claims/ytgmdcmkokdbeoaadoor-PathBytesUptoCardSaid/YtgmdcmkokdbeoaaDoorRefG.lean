/- The writers of the reference: Bytes, Length, Vector, Join. -/
import Derived.Test.YtgmdcmkokdbeoaaDoorRefF
set_option linter.unusedVariables false
namespace Go.Proofs.YtgmdcmkokdbeoaaDoor
open Go.RowKit

theorem beB_take (s n m : Nat) (h : m < s) : (beB s n).take (s - m) = (beB s n).take (s - (m + 1)) ++ [UInt8.ofNat (n / 256 ^ m)] := by
  induction s with
  | zero => omega
  | succ s ih =>
    by_cases hm : m = s
    · subst hm
      rw [show m + 1 - m = 1 by omega, show m + 1 - (m + 1) = 0 by omega]
      simp [beB]
    · rw [show s + 1 - m = (s - m) + 1 by omega, show s + 1 - (m + 1) = (s - (m + 1)) + 1 by omega]
      simp only [beB, List.take_succ_cons, List.cons_append]
      rw [ih (by omega)]

set_option maxHeartbeats 1000000 in
theorem rbytes_any (n s : Nat) (hn : n < 9223372036854775808) (hs : s ≤ 8) (w : World) :
    Calls Tryd.prog 80 #[.int .i64 n, .int .i64 s] w fun e w' => ∃ A C, e = .returned (.slice A s C) ∧ Kp [] w w' ∧ Ob w.heap.size w' (.slice A s C) (beB s n) := by
  go_enter Tryd.func80, Tryd.ntmps80
  go_wp2
  go_loopw [5, 6] (fun o i wr => ∃ A C, ((∃ m : Nat, m < s ∧ i = .int .i64 m ∧ o = .slice A (s - (m + 1)) C ∧ Ob w.heap.size wr (.slice A (s - (m + 1)) C) ((beB s n).take (s - (m + 1)))) ∨ (i = .int .i64 (-1) ∧ o = .slice A s C ∧ Ob w.heap.size wr (.slice A s C) (beB s n))) ∧ Kp [] w wr) (fun _ i _ => (intOf i + 1).toNat)
  case atStart =>
    rcases s with _ | s
    · exact ⟨none, 0, .inr ⟨by simp, rfl, Ob.nil _ _⟩, Kp.refl _ _⟩
    · exact ⟨none, 0, .inl ⟨s, by omega, by simp, by simp, by simp; exact Ob.nil _ _⟩, Kp.refl _ _⟩
  case round =>
    obtain ⟨A, C, hc, hK⟩ := hrel
    rcases hc with ⟨m, hm, rfl, rfl, ho⟩ | ⟨rfl, rfl, ho⟩
    · have HB := Lib.hid (show (#[Value.int .u8 ((n : Int) / 2 ^ (8 * m) % 256)] : Array Value).toList = [UInt8.ofNat (n / 256 ^ m)].map bv by
        simp only [List.map_cons, List.map_nil, bv_ofNat]
        rw [show (2 : Int) ^ (8 * m) = 256 ^ m by rw [Int.pow_mul]; rfl]
        simp)
      have HY := Lib.hid ((Ob.lit (base := wr.heap.size) (w := wr) (Nat.le_refl _) _ 1 [UInt8.ofNat (n / 256 ^ m)] HB.out rfl (by omega)).bs)
      have HO := Lib.hid (ho.kp ((Kp.refl [] wr).alloc (.cells #[Value.int .u8 ((n : Int) / 2 ^ (8 * m) % 256)] 5)) (by simp))
      have HT := Lib.hid (beB_take s n m hm)
      have HL := Lib.hid (show ((beB s n).take (s - (m + 1))).length = s - (m + 1) by rw [List.length_take, beB_length]; omega)
      have HG := Lib.hid ho
      clear ho
      go_wp2_with (at_builtin; refine app_b rfl (.tmp 13) (.tmp 20) rfl w.heap.size HO.out HY.out (by rfl) rfl (by rw [HL.out]; simp; omega) (by simp; have := hK.size; omega) ?_; intro v2 w2 o2 g2 _; have k2 := (hK.alloc (.cells #[Value.int .u8 ((n : Int) / 2 ^ (8 * m) % 256)] 5)).grown g2 (fun b hb => .inr (HG.out.lt b (by simpa [Value.ownBlock] using hb)).1))
      go_roundw
      case rel =>
        rw [← HT.out] at o2
        obtain ⟨A3, C3, hv3⟩ := o2.shape
        have hl : ((beB s n).take (s - m)).length = s - m := by rw [List.length_take, beB_length]; omega
        rw [hl] at hv3
        rcases m with _ | m
        · refine ⟨A3, C3, .inr ⟨by simp, by simpa using hv3, ?_⟩, k2⟩
          rw [hv3] at o2
          rw [show s - 0 = s by omega] at o2
          rw [List.take_of_length_le (by rw [beB_length]; omega)] at o2
          exact o2
        · exact ⟨A3, C3, .inl ⟨m, by omega, by simp, hv3, hv3 ▸ o2⟩, k2⟩
      case measure => simp [intOf]
    · go_wp2
      go_ret
      exact ⟨A, C, rfl, hK, ho⟩

set_option maxRecDepth 100000 in
set_option maxHeartbeats 400000 in
theorem rlenc_1 (n : Nat) (h : n < 64) (w : World) : Calls Tryd.prog 75 #[.int .i64 n] w fun e w' => ∃ A C, e = .returned (.tuple #[.slice A 1 C, .int .i64 0]) ∧ Kp [] w w' ∧ Ob w.heap.size w' (.slice A 1 C) (beB 1 n) := by
  have hB := rbytes_any n 1 (by omega) (by omega) w
  have h1 : decide ((1073741824 : Int) ≤ (n : Int)) = false := decide_eq_false (by omega)
  have h2 : decide ((n : Int) < 64) = true := decide_eq_true (by omega)
  go_enter Tryd.func75, Tryd.ntmps75
  go_wp2_with (go_at_call 80; refine hB.mono ?_; rintro en w1 ⟨A, C, rfl, k, o⟩)
  go_ret2
  exact ⟨A, C, rfl, k, o⟩
set_option maxRecDepth 100000 in
set_option maxHeartbeats 400000 in
theorem rlenc_2 (n : Nat) (h0 : 64 ≤ n) (h : n < 16384) (w : World) : Calls Tryd.prog 75 #[.int .i64 n] w fun e w' => ∃ A C, e = .returned (.tuple #[.slice A 2 C, .int .i64 0]) ∧ Kp [] w w' ∧ Ob w.heap.size w' (.slice A 2 C) (beB 2 (n + 16384)) := by
  obtain ⟨N, hN⟩ : ∃ N, N = n + 16384 := ⟨_, rfl⟩
  rw [← hN]
  have hB := rbytes_any N 2 (by omega) (by omega) w
  rw [show (N : Int) = (n : Int) + 16384 by omega] at hB
  clear hN
  have h1 : decide ((1073741824 : Int) ≤ (n : Int)) = false := decide_eq_false (by omega)
  have h2 : decide ((n : Int) < 64) = false := decide_eq_false (by omega)
  have h3 : decide ((n : Int) < 16384) = true := decide_eq_true (by omega)
  go_enter Tryd.func75, Tryd.ntmps75
  go_wp2_with (go_at_call 80; refine hB.mono ?_; rintro en w1 ⟨A, C, rfl, k, o⟩)
  go_ret2
  exact ⟨A, C, rfl, k, o⟩
set_option maxRecDepth 100000 in
set_option maxHeartbeats 400000 in
theorem rlenc_4 (n : Nat) (h0 : 16384 ≤ n) (h : n < 1073741824) (w : World) : Calls Tryd.prog 75 #[.int .i64 n] w fun e w' => ∃ A C, e = .returned (.tuple #[.slice A 4 C, .int .i64 0]) ∧ Kp [] w w' ∧ Ob w.heap.size w' (.slice A 4 C) (beB 4 (n + 2147483648)) := by
  obtain ⟨N, hN⟩ : ∃ N, N = n + 2147483648 := ⟨_, rfl⟩
  rw [← hN]
  have hB := rbytes_any N 4 (by omega) (by omega) w
  rw [show (N : Int) = (n : Int) + 2147483648 by omega] at hB
  clear hN
  have h1 : decide ((1073741824 : Int) ≤ (n : Int)) = false := decide_eq_false (by omega)
  have h2 : decide ((n : Int) < 64) = false := decide_eq_false (by omega)
  have h3 : decide ((n : Int) < 16384) = false := decide_eq_false (by omega)
  go_enter Tryd.func75, Tryd.ntmps75
  go_wp2_with (go_at_call 80; refine hB.mono ?_; rintro en w1 ⟨A, C, rfl, k, o⟩)
  go_ret2
  exact ⟨A, C, rfl, k, o⟩
theorem rlenc_any (n : Nat) (hn : n < 1073741824) (w : World) : Calls Tryd.prog 75 #[.int .i64 n] w (LnPost n w) := by
  unfold LnPost lenB
  by_cases h1 : n < 64
  · simp only [if_pos h1, beB_length]; exact rlenc_1 n h1 w
  · by_cases h2 : n < 16384
    · simp only [if_neg h1, if_pos h2, beB_length]; exact rlenc_2 n (by omega) h2 w
    · simp only [if_neg h1, if_neg h2, beB_length]; exact rlenc_4 n (by omega) hn w

set_option maxHeartbeats 400000 in
theorem rvect_any {w : World} {v : Value} {xs : List UInt8} (h : Bs w v xs) (hl : xs.length ≤ 65536) :
    Calls Tryd.prog 65 #[v] w (OkPost w (vecB xs)) := by
  have hL := rlenc_any xs.length (by omega) w
  have h4 := lenB_length xs.length
  have hb := Lib.hid h
  obtain ⟨a, c, rfl, -⟩ := h
  have h1 : decide ((65536 : Int) < (xs.length : Int)) = false := decide_eq_false (by omega)
  have HB := Lib.hid (show (lenB xs.length).length + xs.length ≤ 70368744177664 by omega)
  clear hl h4
  go_enter Tryd.func65, Tryd.ntmps65
  go_wp2_with (first | (go_at_call 75; refine hL.mono ?_; rintro en w1 ⟨A, C, rfl, k, o⟩) | (at_builtin; refine app_b rfl (.tmp 15) (.tmp 16) rfl w.heap.size o (hb.out.kp k) rfl rfl HB.out k.size ?_; intro v2 w2 o2 g2 _))
  go_ret2
  obtain ⟨A2, C2, rfl⟩ := o2.shape
  exact ⟨A2, C2, rfl, k.grown g2 (fun b hb => .inr (o.lt b hb).1), o2⟩

set_option maxHeartbeats 400000 in
theorem rjoin_any {w : World} {v : Value} {xss : List (List UInt8)} (h : Bss w v xss) (hm : ∀ x ∈ xss, x.length ≤ 65536) (hn : xss.length ≤ 268435456) :
    Calls Tryd.prog 43 #[v] w fun e w' => ∃ A C, e = .returned (.slice A (joinV xss).length C) ∧ Kp [] w w' ∧ Ob w.heap.size w' (.slice A (joinV xss).length C) (joinV xss) := by
  obtain ⟨a, c, rfl, h1, h2, h3, h4⟩ := h
  clear h3
  go_enter Tryd.func43, Tryd.ntmps43
  go_wp2
  go_loopw [3, 4] (fun o i wr => ∃ k : Nat, k ≤ xss.length ∧ i = .int .i64 k ∧ ∃ A C, o = .slice A (joinV (xss.take k)).length C ∧ Kp [] w wr ∧ Ob w.heap.size wr (.slice A (joinV (xss.take k)).length C) (joinV (xss.take k))) (fun _ i _ => xss.length - (intOf i).toNat)
  case atStart => exact ⟨0, Nat.zero_le _, rfl, none, 0, rfl, Kp.refl _ _, Ob.nil _ _⟩
  case round =>
    obtain ⟨k, hk, rfl, A, C, rfl, hK, ho⟩ := hrel
    by_cases hlt : k < xss.length
    · obtain ⟨g, o, rfl, hc⟩ := h4 (by omega)
      obtain ⟨A1, C1, e1, b1⟩ := hc k hlt
      have d1 := hK.get e1 (by simp)
      have hx := hm ((xss[k]?).getD []) (by rw [List.getElem?_eq_getElem hlt]; exact List.getElem_mem _)
      have hsz := joinV_take_le xss k 65536 hm
      have hV := rvect_any (b1.kp hK) hx
      clear hc h4 e1
      have JT := joinV_take xss k hlt
      generalize (xss[k]?).getD [] = x at *
      generalize (joinV (xss.take k)) = y at *
      have hl4 := lenB_length x.length
      have HB := Lib.hid (show y.length + (vecB x).length ≤ 70368744177664 by unfold vecB; rw [List.length_append]; omega)
      have JT' := Lib.hid JT
      clear JT
      go_wp2_with (first | (go_at_call 65; refine hV.mono ?_; rintro en w1 ⟨A2, C2, rfl, k1, o1⟩) | (at_builtin; refine app_b rfl (.tmp 21) (.tmp 22) rfl w.heap.size (ho.kp k1 (by simp)) o1.bs rfl rfl HB.out (Nat.le_trans hK.size k1.size) ?_; intro v2 w2 o2 g2 _; have k2 := (hK.trans k1).grown g2 (fun b hb => .inr (ho.lt b hb).1)))
      go_roundw
      case rel =>
        have hj : y ++ vecB x = joinV (xss.take (k + 1)) := by rw [JT'.out]; simp [vecB]
        rw [hj] at o2
        obtain ⟨A3, C3, hv3⟩ := o2.shape
        exact ⟨k + 1, by omega, by go_num, A3, C3, hv3, k2, hv3 ▸ o2⟩
      case measure => simp [intOf]; omega
    · have : k = xss.length := by omega
      subst this
      rw [List.take_length] at ho ⊢
      go_wp2
      go_ret
      exact ⟨A, C, rfl, hK, ho⟩
end Go.Proofs.YtgmdcmkokdbeoaaDoor
