/- The leaf of the reference: bare, LeafBytes. -/
import Derived.Test.YtgmdcmkokdbeoaaDoorRefH
set_option linter.unusedVariables false
namespace Go.Proofs.YtgmdcmkokdbeoaaDoor
open Go.RowKit

/-- append in a region that draws its order, the operands first. -/
theorem step_app_c {w : World} {ops : Array Oper} {o : Oper} {a : Act} {K : Act → World → Prop} {Q : Exit → Act → World → Prop} {E : Prop} (hgd : o.guard = none) (s x : Operand)
    (ho : o.op = .call { callee := .builtin .append, args := #[s, x], argTypes := #[22, 22] })
    (v : Value) {y : Value} (hs : a.eval s = v) (hx : a.eval x = y) (base : Nat) (xs ys : List UInt8) (HO : Ob base w v xs) (HX : Bs w y ys)
    (hlen : xs.length + ys.length ≤ 70368744177664) (hbase : base ≤ w.heap.size)
    (h : ∀ A C w', Ob base w' (.slice A (xs ++ ys).length C) (xs ++ ys) → w.grownBy w' v.ownBlock → K (a.put o.dst (.slice A (xs ++ ys).length C)) w') :
    if Region.wanted o (yielded ops a.tmps) = true then Oper.wp Tryd.prog o a w K Q else E :=
  step_app_b hgd s x ho base HO HX hs hx hlen hbase (fun A C w' h1 h2 _ => by
    have e : xs.length + ys.length = (xs ++ ys).length := by rw [List.length_append]
    rw [e] at h1 ⊢
    exact h A C w' h1 h2)

/-- Rows of slices, and of one byte, by the block that holds them. -/
theorem Bss.blk {W : World} {g m : Nat} {cs : Array Value} {t : TypeId} {f : Nat × Nat} {xss : List (List UInt8)} (hg : W.heap[g]? = some (.cells cs t f)) (hm : m = xss.length) (hb : m ≤ 9223372036854775807)
    (h : ∀ i, i < xss.length → ∃ A C, cs[i]? = some (.slice A ((xss[i]?).getD []).length C) ∧ Bs W (.slice A ((xss[i]?).getD []).length C) ((xss[i]?).getD [])) :
    Bss W (.slice (some ⟨g, 0, none⟩) m m) xss := by
  subst hm
  refine ⟨_, _, rfl, Nat.le_refl _, hb, by simp, fun _ => ⟨g, 0, rfl, fun i hi => ?_⟩⟩
  obtain ⟨A, C, hc, hbs⟩ := h i hi
  exact ⟨A, C, by rw [Nat.zero_add, heap_cell hg]; exact hc, hbs⟩
theorem Bss.blk3 {W : World} {g : Nat} {t : TypeId} {f : Nat × Nat} {A0 A1 A2 : Option Addr} {C0 C1 C2 : Nat} {x0 x1 x2 : List UInt8} (hg : W.heap[g]? = some (.cells #[.slice A0 x0.length C0, .slice A1 x1.length C1, .slice A2 x2.length C2] t f))
    (h0 : Bs W (.slice A0 x0.length C0) x0) (h1 : Bs W (.slice A1 x1.length C1) x1) (h2 : Bs W (.slice A2 x2.length C2) x2) : Bss W (.slice (some ⟨g, 0, none⟩) 3 3) [x0, x1, x2] :=
  Bss.blk hg rfl (by omega) (fun i hi => by
    rcases i with _ | _ | _ | i
    · exact ⟨A0, C0, rfl, h0⟩
    · exact ⟨A1, C1, rfl, h1⟩
    · exact ⟨A2, C2, rfl, h2⟩
    · simp at hi; omega)
theorem Bss.blk2 {W : World} {g : Nat} {t : TypeId} {f : Nat × Nat} {A0 A1 : Option Addr} {C0 C1 : Nat} {x0 x1 : List UInt8} (hg : W.heap[g]? = some (.cells #[.slice A0 x0.length C0, .slice A1 x1.length C1] t f))
    (h0 : Bs W (.slice A0 x0.length C0) x0) (h1 : Bs W (.slice A1 x1.length C1) x1) : Bss W (.slice (some ⟨g, 0, none⟩) 2 2) [x0, x1] :=
  Bss.blk hg rfl (by omega) (fun i hi => by
    rcases i with _ | _ | i
    · exact ⟨A0, C0, rfl, h0⟩
    · exact ⟨A1, C1, rfl, h1⟩
    · simp at hi; omega)
theorem Bss.blk1 {W : World} {g : Nat} {t : TypeId} {f : Nat × Nat} {A0 : Option Addr} {C0 : Nat} {x0 : List UInt8} (hg : W.heap[g]? = some (.cells #[.slice A0 x0.length C0] t f))
    (h0 : Bs W (.slice A0 x0.length C0) x0) : Bss W (.slice (some ⟨g, 0, none⟩) 1 1) [x0] :=
  Bss.blk hg rfl (by omega) (fun i hi => by
    rcases i with _ | i
    · exact ⟨A0, C0, rfl, h0⟩
    · simp at hi)
theorem Bs.blk1 {W : World} {g : Nat} {c : Int} {t : TypeId} {f : Nat × Nat} {b : UInt8} (hg : W.heap[g]? = some (.cells #[.int .u8 c] t f)) (hc : c = (b.toNat : Int)) : Bs W (.slice (some ⟨g, 0, none⟩) 1 1) [b] := by
  subst hc
  refine ⟨_, _, rfl, Nat.le_refl _, by omega, by simp, fun _ => ⟨g, 0, rfl, fun i hi => ?_⟩⟩
  obtain rfl : i = 0 := by simpa using hi
  rw [Nat.zero_add, heap_cell hg]
  rfl

set_option maxRecDepth 100000 in
set_option maxHeartbeats 2000000 in
theorem rbare_no {w : World} (enc sig name hash : List UInt8) (N4 SN : Nat) (hsn : SN ≤ 255) (hs3 : SN ≠ 3) {A0 A1 A2 A3 A4 : Option Addr} {C0 C1 C2 C3 C4 : Nat}
    (r1 : enc.length ≤ 64) (r2 : sig.length ≤ 64) (r3 : name.length ≤ 64)
    (b0 : Bs w (.slice A0 enc.length C0) enc) (b1 : Bs w (.slice A1 sig.length C1) sig) (b2 : Bs w (.slice A2 name.length C2) name) :
    Calls Tryd.prog 66 #[.agg #[.slice A0 enc.length C0, .slice A1 sig.length C1, .slice A2 name.length C2, .int .i64 SN, .slice A3 hash.length C3, .slice A4 N4 C4]] w
      fun e w' => ∃ A C, e = .returned (.slice A (joinV [enc, sig, name] ++ beB 1 SN).length C) ∧ Kp [] w w' ∧ Ob w.heap.size w' (.slice A (joinV [enc, sig, name] ++ beB 1 SN).length C) (joinV [enc, sig, name] ++ beB 1 SN) := by
  have t3 : ((SN : Int) == 3) = false := by simp; omega
  have HC := Lib.hid (show (#[Value.int .u8 ((SN : Int))] : Array Value).toList = (beB 1 SN).map bv by
    rw [beB1]; simp; omega)
  have hJ := joinV_le [enc, sig, name] 64 (by intro x hx; simp at hx; rcases hx with rfl | rfl | rfl <;> omega)
  have HL := Lib.hid (show (joinV [enc, sig, name]).length + (beB 1 SN).length ≤ 70368744177664 by simp [beB_length] at hJ ⊢; omega)
  have HM := Lib.hid (show ∀ x ∈ [enc, sig, name], x.length ≤ 65536 by intro x hx; simp at hx; rcases hx with rfl | rfl | rfl <;> omega)
  have K0 := Lib.hid ((Kp.refl [] w).alloc (.cells #[.slice A0 enc.length C0, .slice A1 sig.length C1, .slice A2 name.length C2, .int .i64 SN, .slice A3 hash.length C3, .slice A4 N4 C4] 24) |>.drew)
  have B0 := Lib.hid b0
  have B1 := Lib.hid b1
  have B2 := Lib.hid b2
  have hwr : IntKind.u8.wrap (SN : Int) = (SN : Int) := by simp only [IntKind.wrap, IntKind.bits, IntKind.signed]; simp; omega
  have HB := Lib.hid (show ∀ W' g, Kp [] w W' → W'.heap[w.heap.size]? = some (.cells #[.slice A0 enc.length C0, .slice A1 sig.length C1, .slice A2 name.length C2, .int .i64 SN, .slice A3 hash.length C3, .slice A4 N4 C4] 24 (0, 0)) → W'.heap[g]? = some (.cells #[.slice A0 enc.length C0, .slice A1 sig.length C1, .slice A2 name.length C2] 22 (0, 0)) → Calls Tryd.prog 43 #[.slice (some ⟨g, 0, none⟩) 3 3] W' fun e w' => ∃ A C, e = .returned (.slice A (joinV [enc, sig, name]).length C) ∧ Kp [] W' w' ∧ Kp [] w w' ∧ w'.heap[w.heap.size]? = some (.cells #[.slice A0 enc.length C0, .slice A1 sig.length C1, .slice A2 name.length C2, .int .i64 SN, .slice A3 hash.length C3, .slice A4 N4 C4] 24 (0, 0)) ∧ Ob (w.heap.size + 1) w' (.slice A (joinV [enc, sig, name]).length C) (joinV [enc, sig, name]) from
    fun W' g k hz hg => (rjoin_any (Bss.blk3 hg (b0.kp k) (b1.kp k) (b2.kp k)) HM.out (by simp)).mono fun _ _ ⟨A, C, he, k1, o1⟩ => ⟨A, C, he, k1, k.trans k1, k1.obj hz (by simp), o1.mono (heap_lt hz)⟩)
  have HE := Lib.hid (show beB 1 SN = [UInt8.ofNat SN] by simp [beB])
  have HD := Lib.hid (show (SN : Int) = ((UInt8.ofNat SN).toNat : Int) by simp; omega)
  clear hJ b0 b1 b2 hs3 r1 r2 r3
  go_enter Tryd.func66, Tryd.ntmps66
  go_wp2_with fail
  go_region_held3 (fun w' => w'.cell? ⟨w.heap.size, 0, none⟩ = some (.slice A0 enc.length C0) ∧ w'.cell? ⟨w.heap.size, 1, none⟩ = some (.slice A1 sig.length C1) ∧ w'.cell? ⟨w.heap.size, 2, none⟩ = some (.slice A2 name.length C2) ∧ w'.cell? ⟨w.heap.size, 3, none⟩ = some (.int .i64 SN))
    (first | exact ⟨y0, y1, y2, y3⟩ | exact ⟨x0, x1, x2, x3⟩ | go_keep)
    (first | (go_at_call 43; (with_reducible refine (HB.out _ _ ?_ ?_ ?_).mono ?_); (focus (repeat (first | exact Kp.refl _ _ | apply Kp.drew | apply Kp.alloc))); (focus (first | exact alloc2_get w _ _ | exact (alloc3 w _ _ _).1)); (focus (first | exact alloc2_last w _ _ | exact (alloc3 w _ _ _).2.1 | exact (alloc3 w _ _ _).2.2)); rintro en w1 ⟨J1, J2, rfl, k1, kk, hz, o1⟩; have x0 : w1.cell? ⟨w.heap.size, 0, none⟩ = some (.slice A0 enc.length C0) := heap_cell hz 0; have x1 : w1.cell? ⟨w.heap.size, 1, none⟩ = some (.slice A1 sig.length C1) := heap_cell hz 1; have x2 : w1.cell? ⟨w.heap.size, 2, none⟩ = some (.slice A2 name.length C2) := heap_cell hz 2; have x3 : w1.cell? ⟨w.heap.size, 3, none⟩ = some (.int .i64 SN) := heap_cell hz 3; have hlt1 := heap_lt hz; clear hz) | (refine step_app_c (by rfl) _ _ (by rfl) (.slice J1 (joinV [enc, sig, name]).length J2) (by rfl) (by rfl) (w.heap.size + 1) (joinV [enc, sig, name]) (beB 1 SN) ?_ ?_ HL.out ?_ ?_; (focus (first | exact o1 | exact o1.kp ((Kp.refl [] _).alloc _) (by simp))); (focus (rw [HE.out]; first | exact Bs.blk1 (heap_alloc_new w1 _) HD.out | exact Bs.blk1 (k1.obj (alloc3 w _ _ _).2.2 (by simp)) HD.out | exact Bs.blk1 (k1.obj (alloc3 w _ _ _).2.1 (by simp)) HD.out)); (focus (first | exact hlt1 | (simp; omega))); intro Aq Cq w3 o3 hg; have hne := fun hb => Nat.lt_irrefl _ (o1.lt w.heap.size hb).1; have y0 := grown_cell hg w.heap.size 0 (v := .slice A0 enc.length C0) (by first | exact x0 | exact (World.cell?_alloc_lt _ _ _ hlt1).trans x0) hne; have y1 := grown_cell hg w.heap.size 1 (v := .slice A1 sig.length C1) (by first | exact x1 | exact (World.cell?_alloc_lt _ _ _ hlt1).trans x1) hne; have y2 := grown_cell hg w.heap.size 2 (v := .slice A2 name.length C2) (by first | exact x2 | exact (World.cell?_alloc_lt _ _ _ hlt1).trans x2) hne; have y3 := grown_cell hg w.heap.size 3 (v := .int .i64 SN) (by first | exact x3 | exact (World.cell?_alloc_lt _ _ _ hlt1).trans x3) hne) | fail)
  all_goals go_wp2
  all_goals go_ret
  all_goals exact ⟨Aq, Cq, by simp, by first | exact kk.grown hg (fun b hb => .inr (Nat.le_of_succ_le (o1.lt b hb).1)) | exact (kk.alloc _).grown hg (fun b hb => .inr (Nat.le_of_succ_le (o1.lt b hb).1)), o3.mono (Nat.le_succ _)⟩
set_option maxRecDepth 100000 in
set_option maxHeartbeats 2000000 in
theorem rbare_yes {w : World} (enc sig name hash : List UInt8) (N4 SN : Nat) (hsn : SN ≤ 255) (hs3 : SN = 3) {A0 A1 A2 A3 A4 : Option Addr} {C0 C1 C2 C3 C4 : Nat}
    (r1 : enc.length ≤ 64) (r2 : sig.length ≤ 64) (r3 : name.length ≤ 64) (r4 : hash.length ≤ 64)
    (b0 : Bs w (.slice A0 enc.length C0) enc) (b1 : Bs w (.slice A1 sig.length C1) sig) (b2 : Bs w (.slice A2 name.length C2) name) (b3 : Bs w (.slice A3 hash.length C3) hash) :
    Calls Tryd.prog 66 #[.agg #[.slice A0 enc.length C0, .slice A1 sig.length C1, .slice A2 name.length C2, .int .i64 SN, .slice A3 hash.length C3, .slice A4 N4 C4]] w
      fun e w' => ∃ A C, e = .returned (.slice A (joinV [enc, sig, name] ++ beB 1 SN ++ joinV [hash]).length C) ∧ Kp [] w w' ∧ Ob w.heap.size w' (.slice A (joinV [enc, sig, name] ++ beB 1 SN ++ joinV [hash]).length C) (joinV [enc, sig, name] ++ beB 1 SN ++ joinV [hash]) := by
  have t3 : ((SN : Int) == 3) = true := by simp; omega
  have HC := Lib.hid (show (#[Value.int .u8 ((SN : Int))] : Array Value).toList = (beB 1 SN).map bv by
    rw [beB1]; simp; omega)
  have hJ := joinV_le [enc, sig, name] 64 (by intro x hx; simp at hx; rcases hx with rfl | rfl | rfl <;> omega)
  have HL := Lib.hid (show (joinV [enc, sig, name]).length + (beB 1 SN).length ≤ 70368744177664 by simp [beB_length] at hJ ⊢; omega)
  have HM := Lib.hid (show ∀ x ∈ [enc, sig, name], x.length ≤ 65536 by intro x hx; simp at hx; rcases hx with rfl | rfl | rfl <;> omega)
  have K0 := Lib.hid ((Kp.refl [] w).alloc (.cells #[.slice A0 enc.length C0, .slice A1 sig.length C1, .slice A2 name.length C2, .int .i64 SN, .slice A3 hash.length C3, .slice A4 N4 C4] 24) |>.drew)
  have B0 := Lib.hid b0
  have B1 := Lib.hid b1
  have B2 := Lib.hid b2
  have hwr : IntKind.u8.wrap (SN : Int) = (SN : Int) := by simp only [IntKind.wrap, IntKind.bits, IntKind.signed]; simp; omega
  have HM3 := Lib.hid (show ∀ x ∈ [hash], x.length ≤ 65536 by intro x hx; simp at hx; subst hx; omega)
  have hJ3 := joinV_le [hash] 64 (by intro x hx; simp at hx; subst hx; omega)
  have HL3 := Lib.hid (show (joinV [enc, sig, name] ++ beB 1 SN).length + (joinV [hash]).length ≤ 70368744177664 by rw [List.length_append]; have := HL.out; simp [beB_length] at hJ hJ3 ⊢; omega)
  have B3 := Lib.hid b3
  have HB := Lib.hid (show ∀ W' g, Kp [] w W' → W'.heap[w.heap.size]? = some (.cells #[.slice A0 enc.length C0, .slice A1 sig.length C1, .slice A2 name.length C2, .int .i64 SN, .slice A3 hash.length C3, .slice A4 N4 C4] 24 (0, 0)) → W'.heap[g]? = some (.cells #[.slice A0 enc.length C0, .slice A1 sig.length C1, .slice A2 name.length C2] 22 (0, 0)) → Calls Tryd.prog 43 #[.slice (some ⟨g, 0, none⟩) 3 3] W' fun e w' => ∃ A C, e = .returned (.slice A (joinV [enc, sig, name]).length C) ∧ Kp [] W' w' ∧ Kp [] w w' ∧ w'.heap[w.heap.size]? = some (.cells #[.slice A0 enc.length C0, .slice A1 sig.length C1, .slice A2 name.length C2, .int .i64 SN, .slice A3 hash.length C3, .slice A4 N4 C4] 24 (0, 0)) ∧ Ob (w.heap.size + 1) w' (.slice A (joinV [enc, sig, name]).length C) (joinV [enc, sig, name]) from
    fun W' g k hz hg => (rjoin_any (Bss.blk3 hg (b0.kp k) (b1.kp k) (b2.kp k)) HM.out (by simp)).mono fun _ _ ⟨A, C, he, k1, o1⟩ => ⟨A, C, he, k1, k.trans k1, k1.obj hz (by simp), o1.mono (heap_lt hz)⟩)
  have HE := Lib.hid (show beB 1 SN = [UInt8.ofNat SN] by simp [beB])
  have HD := Lib.hid (show (SN : Int) = ((UInt8.ofNat SN).toNat : Int) by simp; omega)
  clear hJ hJ3 b0 b1 b2 b3 hs3 r1 r2 r3 r4
  go_enter Tryd.func66, Tryd.ntmps66
  go_wp2_with fail
  go_region_held3 (fun w' => w'.cell? ⟨w.heap.size, 0, none⟩ = some (.slice A0 enc.length C0) ∧ w'.cell? ⟨w.heap.size, 1, none⟩ = some (.slice A1 sig.length C1) ∧ w'.cell? ⟨w.heap.size, 2, none⟩ = some (.slice A2 name.length C2) ∧ w'.cell? ⟨w.heap.size, 3, none⟩ = some (.int .i64 SN) ∧ w'.cell? ⟨w.heap.size, 4, none⟩ = some (.slice A3 hash.length C3))
    (first | exact ⟨y0, y1, y2, y3, y4⟩ | exact ⟨x0, x1, x2, x3, x4⟩ | go_keep)
    (first | (go_at_call 43; (with_reducible refine (HB.out _ _ ?_ ?_ ?_).mono ?_); (focus (repeat (first | exact Kp.refl _ _ | apply Kp.drew | apply Kp.alloc))); (focus (first | exact alloc2_get w _ _ | exact (alloc3 w _ _ _).1)); (focus (first | exact alloc2_last w _ _ | exact (alloc3 w _ _ _).2.1 | exact (alloc3 w _ _ _).2.2)); rintro en w1 ⟨J1, J2, rfl, k1, kk, hz, o1⟩; have x0 : w1.cell? ⟨w.heap.size, 0, none⟩ = some (.slice A0 enc.length C0) := heap_cell hz 0; have x1 : w1.cell? ⟨w.heap.size, 1, none⟩ = some (.slice A1 sig.length C1) := heap_cell hz 1; have x2 : w1.cell? ⟨w.heap.size, 2, none⟩ = some (.slice A2 name.length C2) := heap_cell hz 2; have x3 : w1.cell? ⟨w.heap.size, 3, none⟩ = some (.int .i64 SN) := heap_cell hz 3; have x4 : w1.cell? ⟨w.heap.size, 4, none⟩ = some (.slice A3 hash.length C3) := heap_cell hz 4; have hlt1 := heap_lt hz; clear hz) | (refine step_app_c (by rfl) _ _ (by rfl) (.slice J1 (joinV [enc, sig, name]).length J2) (by rfl) (by rfl) (w.heap.size + 1) (joinV [enc, sig, name]) (beB 1 SN) ?_ ?_ HL.out ?_ ?_; (focus (first | exact o1 | exact o1.kp ((Kp.refl [] _).alloc _) (by simp))); (focus (rw [HE.out]; first | exact Bs.blk1 (heap_alloc_new w1 _) HD.out | exact Bs.blk1 (k1.obj (alloc3 w _ _ _).2.2 (by simp)) HD.out | exact Bs.blk1 (k1.obj (alloc3 w _ _ _).2.1 (by simp)) HD.out)); (focus (first | exact hlt1 | (simp; omega))); intro Aq Cq w3 o3 hg; have hne := fun hb => Nat.lt_irrefl _ (o1.lt w.heap.size hb).1; have y0 := grown_cell hg w.heap.size 0 (v := .slice A0 enc.length C0) (by first | exact x0 | exact (World.cell?_alloc_lt _ _ _ hlt1).trans x0) hne; have y1 := grown_cell hg w.heap.size 1 (v := .slice A1 sig.length C1) (by first | exact x1 | exact (World.cell?_alloc_lt _ _ _ hlt1).trans x1) hne; have y2 := grown_cell hg w.heap.size 2 (v := .slice A2 name.length C2) (by first | exact x2 | exact (World.cell?_alloc_lt _ _ _ hlt1).trans x2) hne; have y3 := grown_cell hg w.heap.size 3 (v := .int .i64 SN) (by first | exact x3 | exact (World.cell?_alloc_lt _ _ _ hlt1).trans x3) hne; have y4 := grown_cell hg w.heap.size 4 (v := .slice A3 hash.length C3) (by first | exact x4 | exact (World.cell?_alloc_lt _ _ _ hlt1).trans x4) hne) | fail)
  all_goals have kw : Kp [] w w3 := by first | exact kk.grown hg (fun b hb => .inr (Nat.le_of_succ_le (o1.lt b hb).1)) | exact (kk.alloc _).grown hg (fun b hb => .inr (Nat.le_of_succ_le (o1.lt b hb).1))
  all_goals have hl3 : w.heap.size + 1 ≤ w3.heap.size := World.block_lt_of_cell? w3 _ y0
  all_goals clear hg k1 kk o1 x0 x1 x2 x3 x4 hne hlt1
  all_goals go_wp2_with (first | (go_at_call 43; refine (rjoin_any (Bss.blk1 (heap_alloc_new w3 _) (B3.out.kp (kw.alloc _))) HM3.out (by simp)).mono ?_; rintro en w4 ⟨J3, J4, rfl, k4, o4⟩) | (at_builtin; refine app_b rfl (.tmp 20) (.tmp 24) rfl (w.heap.size + 1) (o3.kp (((Kp.refl [] w3).alloc _).trans k4) (by simp)) o4.bs (by simp [Act.eval, Act.put]) rfl HL3.out (by have := k4.size; simp at this; omega) ?_; intro v5 w5 o5 g5 _))
  all_goals go_ret
  all_goals obtain ⟨A5, C5, rfl⟩ := o5.shape
  all_goals exact ⟨A5, C5, by simp, ((kw.alloc _).trans k4).grown g5 (fun b hb => .inr (Nat.le_of_succ_le ((o3.kp (((Kp.refl [] w3).alloc _).trans k4) (by simp)).lt b (by simpa [Value.ownBlock] using hb)).1)), o5.mono (Nat.le_succ _)⟩
end Go.Proofs.YtgmdcmkokdbeoaaDoor
