/- Bytes as strings; bytes.Equal. -/
import Derived.Test.YtgmdcmkokdbeoaaDoorApp
import Derived.Laws.BytesArg
namespace Go.Proofs.YtgmdcmkokdbeoaaDoor
open Go.RowKit

def strOf (xs : List UInt8) : ByteArray := ⟨xs.toArray⟩
theorem bs_string {w : World} {v : Value} {xs : List UInt8} (h : Bs w v xs) : (convert 22 9 v).run Tryd.prog w = .ok (.string (strOf xs)) w := by
  obtain ⟨a, c, rfl, h1, h2, h3, h4⟩ := h
  rcases Nat.eq_zero_or_pos xs.length with h0 | h0
  · have : xs = [] := List.eq_nil_of_length_eq_zero h0
    subst this
    rcases a with _ | a
    · rw [run_convert_bytes_nil w _ _ Tryd.underlying22 Tryd.underlying5 _ _ _ Tryd.underlying9]; rfl
    · rw [run_convert_bytes_string w _ _ _ _ _ _ Tryd.underlying22 Tryd.underlying5 Tryd.underlying9]
      have hl : (loadCells a ([] : List UInt8).length).run Tryd.prog w = .ok (([] : List Int).map (Value.int .u8)).toArray w := by
        simp [loadCells, loadCellsFrom]
      rw [run_bytesToString w a _ c [] hl]; rfl
  · obtain ⟨g, o, rfl, hc⟩ := h4 h0
    have := run_convert_bytes_arg (P := Tryd.prog) w _ _ Tryd.underlying22 Tryd.underlying5 g o xs.length c (xs.map fun b => (b.toNat : Int)) (by simp) (fun i hi => by
      rw [hc i hi]; simp [hi]) _ Tryd.underlying9
    rw [this]
    have e : strOfNums (xs.map fun b => (b.toNat : Int)) = strOf xs := by
      unfold strOfNums strOf
      simp [Function.comp_def]
    rw [e]

theorem strOf_toList (xs : List UInt8) : (strOf xs).toList = xs := by rw [ByteArray.toList_eq]; rfl
theorem beq_dec (xs ys : List UInt8) : (xs == ys) = decide (xs = ys) := by
  by_cases h : xs = ys <;> simp [h]

set_option maxHeartbeats 400000 in
theorem equal_any {w : World} {u v : Value} {xs ys : List UInt8} (hu : Bs w u xs) (hv : Bs w v ys) :
    Calls Tryd.prog 24 #[u, v] w fun e w' => e = .returned (.bool (decide (xs = ys))) ∧ w = w' := by
  have e1 := bs_string hu
  have e2 := bs_string hv
  clear hu hv
  go_enter Tryd.func24, Tryd.ntmps24
  go_wp2
  go_ret
  exact ⟨by show Ending.returned (Value.bool ((strOf xs).toList == (strOf ys).toList)) = _; rw [strOf_toList, strOf_toList, beq_dec], rfl⟩
end Go.Proofs.YtgmdcmkokdbeoaaDoor
