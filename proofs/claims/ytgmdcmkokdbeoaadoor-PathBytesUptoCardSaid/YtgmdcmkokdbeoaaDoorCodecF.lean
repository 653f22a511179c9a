/- The walk of codec.Vectors. -/
import Derived.Test.YtgmdcmkokdbeoaaDoorCodecE
namespace Go.Proofs.YtgmdcmkokdbeoaaDoor
open Go.RowKit

/-- A slice of slices of bytes. -/
def Bss (w : World) (v : Value) (xss : List (List UInt8)) : Prop :=
  ∃ a c, v = .slice a xss.length c ∧ xss.length ≤ c ∧ c ≤ 9223372036854775807 ∧ (a = none → c = 0) ∧
    (0 < xss.length → ∃ g o, a = some ⟨g, o, none⟩ ∧ ∀ i, i < xss.length → ∃ A C, w.cell? ⟨g, o + i, none⟩ = some (.slice A ((xss[i]?).getD []).length C) ∧ Bs w (.slice A ((xss[i]?).getD []).length C) ((xss[i]?).getD []))
theorem Bss.keep {S : List Nat} {w w' : World} {v : Value} {xss : List (List UInt8)} (h : Bss w v xss) (k : Kp S w w') (hS : ∀ b, b ∈ S → w.heap.size ≤ b) : Bss w' v xss := by
  obtain ⟨a, c, rfl, h1, h2, h3, h4⟩ := h
  refine ⟨a, c, rfl, h1, h2, h3, fun hp => ?_⟩
  obtain ⟨g, o, rfl, hc⟩ := h4 hp
  refine ⟨g, o, rfl, fun i hi => ?_⟩
  obtain ⟨A, C, h5, h6⟩ := hc i hi
  refine ⟨A, C, k.get h5 (fun hm => ?_), h6.keep k (fun b hb hp hm => ?_)⟩
  · have := hS _ hm; have := World.block_lt_of_cell? w _ h5; simp at *; omega
  · have := hS _ hm; have := h6.lt hp b hb; omega
theorem Bss.kp {w w' : World} {v : Value} {xss : List (List UInt8)} (h : Bss w v xss) (k : Kp [] w w') : Bss w' v xss := h.keep k (by simp)

def vecB (x : List UInt8) : List UInt8 := lenB x.length ++ x
def joinV (xss : List (List UInt8)) : List UInt8 := (xss.map vecB).flatten
theorem joinV_take (xss : List (List UInt8)) (k : Nat) (h : k < xss.length) : joinV (xss.take (k + 1)) = joinV (xss.take k) ++ lenB ((xss[k]?).getD []).length ++ (xss[k]?).getD [] := by
  unfold joinV
  rw [List.take_add_one, List.getElem?_eq_getElem h, List.map_append, List.flatten_append]
  simp only [Option.toList_some, List.map_cons, List.map_nil, List.flatten_cons, List.flatten_nil, List.append_nil, vecB, Option.getD_some, List.append_assoc]
theorem joinV_le (xss : List (List UInt8)) (m : Nat) (h : ∀ x ∈ xss, x.length ≤ m) : (joinV xss).length ≤ xss.length * (m + 4) := by
  induction xss with
  | nil => exact Nat.zero_le _
  | cons x r ih =>
    have h1 := ih (fun y hy => h y (List.mem_cons_of_mem _ hy))
    have h2 := h x (List.mem_cons_self ..)
    have h3 := lenB_length x.length
    simp only [joinV, List.map_cons, List.flatten_cons, List.length_append, List.length_cons, vecB] at h1 ⊢
    rw [Nat.add_mul]; omega
theorem joinV_take_le (xss : List (List UInt8)) (k m : Nat) (h : ∀ x ∈ xss, x.length ≤ m) : (joinV (xss.take k)).length ≤ xss.length * (m + 4) := by
  refine Nat.le_trans (joinV_le _ m (fun x hx => h x (List.mem_of_mem_take hx))) (Nat.mul_le_mul_right _ ?_)
  rw [List.length_take]; omega

set_option maxRecDepth 100000 in
set_option maxHeartbeats 1000000 in
theorem vectors_any {w : World} {v : Value} {xss : List (List UInt8)} (h : Bss w v xss) (hm : ∀ x ∈ xss, x.length ≤ 65536) (hn : xss.length ≤ 268435456) :
    Calls Tryd.prog 37 #[v] w fun e w' => ∃ A C, e = .returned (.tuple #[.slice A (joinV xss).length C, .int .i64 0]) ∧ Kp [] w w' ∧ Ob w.heap.size w' (.slice A (joinV xss).length C) (joinV xss) := by
  have hbb := h
  obtain ⟨a, c, rfl, h1, h2, h3, h4⟩ := h
  clear h3
  go_enter Tryd.func37, Tryd.ntmps37
  go_wp2
  go_loopw [4, 11] (fun o i wr => ∃ k : Nat, k ≤ xss.length ∧ i = .int .i64 k ∧ ∃ A C, o = .slice A (joinV (xss.take k)).length C ∧ Kp [] w wr ∧ Ob w.heap.size wr (.slice A (joinV (xss.take k)).length C) (joinV (xss.take k))) (fun _ i _ => xss.length - (intOf i).toNat)
  case atStart => exact ⟨0, Nat.zero_le _, rfl, none, 0, rfl, Kp.refl _ _, Ob.nil _ _⟩
  case round =>
    obtain ⟨k, hk, rfl, A, C, rfl, hK, ho⟩ := hrel
    by_cases hlt : k < xss.length
    · obtain ⟨g, o, rfl, hc⟩ := h4 (by omega)
      obtain ⟨A1, C1, e1, b1⟩ := hc k hlt
      have d1 := hK.get e1 (by simp)
      have hx := hm ((xss[k]?).getD []) (by rw [List.getElem?_eq_getElem hlt]; exact List.getElem_mem _)
      have hsz := joinV_take_le xss k 65536 hm
      have hL := lenc_any ((xss[k]?).getD []).length (by omega)
      have b1k := b1.kp hK
      have hlt1 := b1.lt
      clear hc h4 e1
      have JT := joinV_take xss k hlt
      generalize (xss[k]?).getD [] = x at *
      generalize (joinV (xss.take k)) = y at *
      have JT' := Lib.hid JT
      clear JT
      have hl4 := lenB_length x.length
      go_wp2_with (first | (go_at_call 59; refine (hL _).mono ?_; rintro en w1 ⟨A2, C2, rfl, k1, o1⟩) | (at_builtin; refine app_b rfl (.tmp 24) (.tmp 25) rfl w.heap.size (ho.kp k1 (by simp)) o1.bs rfl rfl (by omega) (Nat.le_trans hK.size k1.size) ?_; intro v2 w2 o2 g2 _; have k2 := (hK.trans k1).grown g2 (fun b hb => .inr (ho.lt b hb).1)) | (at_builtin; refine app_b rfl (.tmp 26) (.tmp 27) rfl w.heap.size o2 (b1.kp k2) rfl rfl (by simp only [List.length_append]; omega) k2.size ?_; intro v3 w3 o3 g3 _; have k3 := k2.grown g3 (fun b hb => .inr (o2.lt b hb).1)))
      go_roundw
      case rel =>
        rw [← JT'.out] at o3
        obtain ⟨A3, C3, hv3⟩ := o3.shape
        exact ⟨k + 1, by omega, by go_num, A3, C3, hv3, k3, hv3 ▸ o3⟩
      case measure => simp [intOf]; omega
    · have : k = xss.length := by omega
      subst this
      rw [List.take_length] at ho ⊢
      go_wp2
      go_ret2
      exact ⟨A, C, rfl, hK, ho⟩
end Go.Proofs.YtgmdcmkokdbeoaaDoor
