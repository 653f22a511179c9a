/- Appending bytes to a row of the call's own. -/
import Derived.Test.YtgmdcmkokdbeoaaDoorCodecA
import Derived.Maps.AppendAt
import Derived.OwnWalk
import Derived.Laws.OwnMore
namespace Go.Proofs.YtgmdcmkokdbeoaaDoor
open Go.RowKit

section
variable {P : Program}
theorem run_app_none (w : World) (base : Nat) (t ty e : TypeId) (i : TypeInfo) (size : Nat) (ht : P.underlying t = some (.slice e)) (hi : P.info? e = some i)
    (v : Value) (n : Nat) (xs : List Value) (hown : w.ownsRow base e size v n xs) (c : Nat) : (Builtin.append_ #[t, t] ty #[v, .slice none 0 c]).run P w = .ok v w := by
  rcases hown.2 with ⟨rfl, rfl⟩ | ⟨g, cap, cur, rfl, _, _, hnc, _⟩ <;>
    simp [Builtin.append_, run_underlying ht, sizeOf, typeInfo, Builtin.lenOf, Builtin.firstCells, storeCells, *]
end

/-- The values of a slice: n elements of so many cells. -/
def Sl (w : World) (size : Nat) (v : Value) (n : Nat) (us : List Value) : Prop :=
  ∃ a c, v = .slice a n c ∧ us.length = n * size ∧ n ≤ c ∧ c ≤ 9223372036854775807 ∧ (a = none → c = 0) ∧
    (0 < n → ∃ g o, a = some ⟨g, o, none⟩ ∧ ∀ j u, us[j]? = some u → w.cell? ⟨g, o + j, none⟩ = some u)
theorem Bs.sl {w : World} {v : Value} {xs : List UInt8} (h : Bs w v xs) : Sl w 1 v xs.length (xs.map bv) := by
  obtain ⟨a, c, rfl, h1, h2, h3, h4⟩ := h
  refine ⟨a, c, rfl, by simp, h1, h2, h3, fun hp => ?_⟩
  obtain ⟨g, o, rfl, hc⟩ := h4 hp
  refine ⟨g, o, rfl, fun j u hu => ?_⟩
  have hj : j < xs.length := by have := (List.getElem?_eq_some_iff.1 hu).1; simpa using this
  rw [hc j hj]
  simpa [hj, bv] using hu

theorem run_app {P : Program} (w : World) (base : Nat) (t ty e : TypeId) (i : TypeInfo) (z : Value) (size bytes : Nat) (ht : P.underlying t = some (.slice e)) (hi : P.info? e = some i) (hz : i.zero = some z)
    (hsize : i.size = size) (hby : i.bytes = bytes) (hzs : z.cells.size = size) (hsz : 0 < size)
    (v : Value) (n : Nat) (xs : List Value) (hown : w.ownsRow base e size v n xs) (y : Value) (m : Nat) (ys : List Value) (hy : Sl w size y m ys) (h1 : ∀ u ∈ ys, u.oneCell' = true)
    (h63 : n + m ≤ maxLen) (hbytes : (n + m) * bytes ≤ 140737488355328) (hbase : base ≤ w.heap.size) :
    ∃ v' w', (Builtin.append_ #[t, t] ty #[v, y]).run P w = .ok v' w' ∧ w'.ownsRow base e size v' (n + m) (xs ++ ys) ∧ w.grownBy w' v.ownBlock ∧
      (v'.ownBlock = v.ownBlock ∨ v'.ownBlock = some w.heap.size) := by
  obtain ⟨a, c, rfl, hl, hmc, hc, hn, hp⟩ := hy
  rcases a with _ | ad
  · have h0 : m = 0 := by have := hn rfl; omega
    subst h0
    have : ys = [] := List.eq_nil_of_length_eq_zero (by simpa using hl)
    subst this
    exact ⟨v, w, run_app_none w base t ty e i size ht hi v n xs hown c, by simpa using hown, ⟨rfl, rfl, rfl, Nat.le_refl _, fun _ _ _ => rfl⟩, .inl rfl⟩
  · have hcells : ∀ j u, ys[j]? = some u → w.cell? (ad.add j) = some u := by
      intro j u hu
      rcases Nat.eq_zero_or_pos m with h0 | h0
      · subst h0
        have : ys = [] := List.eq_nil_of_length_eq_zero (by simpa using hl)
        subst this
        simp at hu
      · obtain ⟨g, o, he, hcells⟩ := hp h0
        injection he with he
        subst he
        have := hcells j u hu
        have ha : (⟨g, o, none⟩ : Addr).add j = ⟨g, o + j, none⟩ := by unfold Addr.add; split <;> simp_all
        rw [ha]; exact this
    obtain ⟨v', w', hr, h2, h3, _, h5⟩ := run_append_own_at (P := P) w base t ty e i z size bytes ht hi hz hsize hby hzs hsz v n xs hown ad m c ys hl hcells h1 h63 hbytes hbase
    exact ⟨v', w', hr, h2, h3, h5⟩

theorem wpl_app {P : Program} {w : World} {ops : Array Oper} {rest : List Oper} {o : Oper} {a : Act} {Q : Exit → Act → World → Prop} (hgd : o.guard = none) (s x : Operand) (t : TypeId)
    (ho : o.op = .call { callee := .builtin .append, args := #[s, x], argTypes := #[t, t] })
    (base : Nat) (e : TypeId) (i : TypeInfo) (z : Value) (size bytes : Nat) (ht : P.underlying t = some (.slice e)) (hi : P.info? e = some i) (hz : i.zero = some z)
    (hsize : i.size = size) (hby : i.bytes = bytes) (hzs : z.cells.size = size) (hsz : 0 < size)
    (v : Value) (n : Nat) (xs : List Value) (hs : a.eval s = v) (hown : w.ownsRow base e size v n xs) (y : Value) (m : Nat) (ys : List Value) (hx : a.eval x = y) (hy : Sl w size y m ys) (h1 : ∀ u ∈ ys, u.oneCell' = true)
    (h63 : n + m ≤ maxLen) (hbytes : (n + m) * bytes ≤ 140737488355328) (hbase : base ≤ w.heap.size)
    (h : ∀ v' w', w'.ownsRow base e size v' (n + m) (xs ++ ys) → w.grownBy w' v.ownBlock → (v'.ownBlock = v.ownBlock ∨ v'.ownBlock = some w.heap.size) → wpList P ops Q rest (a.put o.dst v') w') :
    wpList P ops Q (o :: rest) a w := by
  refine wpList_plain hgd fun K hK => ?_
  obtain ⟨v', w', hr, h2, h3, h4⟩ := run_app (P := P) w base t o.type e i z size bytes ht hi hz hsize hby hzs hsz v n xs hown y m ys hy h1 h63 hbytes hbase
  unfold Oper.wp execOp
  simp only [ho, resolve, invoke, builtin, Sem.run_bind, Sem.run_pure, Result.andThen_ok, List.map_toArray, List.map_cons, List.map_nil, hs, hx, hr]
  exact hK _ _ (h v' w' h2 h3 h4)

theorem info_byte : (Tryd.prog.info? 5).map (fun i => (i.zero, i.size, i.bytes)) = some (some (.int .u8 0), 1, 1) := by kernel_rfl

/-- append(s, x...) of bytes -/
theorem app_b {w : World} {ops : Array Oper} {rest : List Oper} {o : Oper} {a : Act} {Q : Exit → Act → World → Prop} (hgd : o.guard = none) (s x : Operand)
    (ho : o.op = .call { callee := .builtin .append, args := #[s, x], argTypes := #[22, 22] })
    (base : Nat) {v : Value} {xs : List UInt8} (HO : Ob base w v xs) {y : Value} {ys : List UInt8} (HX : Bs w y ys) (hs : a.eval s = v) (hx : a.eval x = y)
    (hlen : xs.length + ys.length ≤ 70368744177664) (hbase : base ≤ w.heap.size)
    (h : ∀ v' w', Ob base w' v' (xs ++ ys) → w.grownBy w' v.ownBlock → (v'.ownBlock = v.ownBlock ∨ v'.ownBlock = some w.heap.size) → wpList Tryd.prog ops Q rest (a.put o.dst v') w') :
    wpList Tryd.prog ops Q (o :: rest) a w := by
  obtain ⟨i0, hi, hzz⟩ := Option.map_eq_some_iff.1 info_byte
  simp only [Prod.mk.injEq] at hzz
  obtain ⟨hz0, hz1, hz2⟩ := hzz
  refine wpl_app hgd s x _ ho base _ i0 _ 1 1 Tryd.underlying22 hi hz0 hz1 hz2 rfl (by omega) v xs.length (xs.map bv) hs HO y ys.length (ys.map bv) hx HX.sl
    (by intro u hu; obtain ⟨b, _, rfl⟩ := List.mem_map.1 hu; rfl) (by simp only [maxLen]; omega) (by omega) hbase ?_
  intro v' w' h2 h3 h4
  refine h v' w' ?_ h3 h4
  unfold Ob
  rw [List.length_append, List.map_append]
  exact h2


theorem eql_nil_bytes (w : World) (a : Option Addr) (n c n' c' : Nat) : (binOp .eql 22 (.slice a n c) (.slice none n' c')).run Tryd.prog w = .ok (.bool a.isNone) w :=
  Lib.run_eql_slice_nil w _ _ a n c n' c' Tryd.underlying22
theorem build_empty_bytes (w : World) : (Instr.buildSlice 22 0 #[]).run Tryd.prog w = .ok (.slice (some ⟨w.heap.size, 0, none⟩) 0 0) (w.alloc (.cells #[] 5)) := by kernel_rfl

/-- The same in a region that draws its order. -/
theorem step_app_b {w : World} {ops : Array Oper} {o : Oper} {a : Act} {K : Act → World → Prop} {Q : Exit → Act → World → Prop} {E : Prop} (hgd : o.guard = none) (s x : Operand)
    (ho : o.op = .call { callee := .builtin .append, args := #[s, x], argTypes := #[22, 22] })
    (base : Nat) {v : Value} {xs : List UInt8} (HO : Ob base w v xs) {y : Value} {ys : List UInt8} (HX : Bs w y ys) (hs : a.eval s = v) (hx : a.eval x = y)
    (hlen : xs.length + ys.length ≤ 70368744177664) (hbase : base ≤ w.heap.size)
    (h : ∀ A C w', Ob base w' (.slice A (xs.length + ys.length) C) (xs ++ ys) → w.grownBy w' v.ownBlock → ((Value.slice A (xs.length + ys.length) C).ownBlock = v.ownBlock ∨ (Value.slice A (xs.length + ys.length) C).ownBlock = some w.heap.size) → K (a.put o.dst (.slice A (xs.length + ys.length) C)) w') :
    if Region.wanted o (yielded ops a.tmps) = true then Oper.wp Tryd.prog o a w K Q else E := by
  have hw : Region.wanted o (yielded ops a.tmps) = true := by simp [Region.wanted, hgd]
  rw [if_pos hw]
  obtain ⟨i0, hi, hzz⟩ := Option.map_eq_some_iff.1 info_byte
  simp only [Prod.mk.injEq] at hzz
  obtain ⟨hz0, hz1, hz2⟩ := hzz
  obtain ⟨v', w', hr, h2, h3, h4⟩ := run_app (P := Tryd.prog) w base 22 o.type 5 i0 _ 1 1 Tryd.underlying22 hi hz0 hz1 hz2 rfl (by omega) v xs.length (xs.map bv) HO y ys.length (ys.map bv) HX.sl
    (by intro u hu; obtain ⟨b, _, rfl⟩ := List.mem_map.1 hu; rfl) (by simp only [maxLen]; omega) (by omega) hbase
  have h2' : Ob base w' v' (xs ++ ys) := by unfold Ob; rw [List.length_append, List.map_append]; exact h2
  obtain ⟨A, C, rfl⟩ := h2'.shape
  rw [List.length_append] at h2' h4 hr
  unfold Oper.wp execOp
  simp only [ho, resolve, invoke, builtin, Sem.run_bind, Sem.run_pure, Result.andThen_ok, List.map_toArray, List.map_cons, List.map_nil, hs, hx, hr]
  exact h A C w' h2' h3 h4

theorem Ob.lit {base : Nat} {w : World} (hb : base ≤ w.heap.size) (cs : Array Value) (n : Nat) (xs : List UInt8) (hc : cs.toList = xs.map bv) (hn : n = xs.length) (hm : n ≤ 9223372036854775807) :
    Ob base (w.alloc (.cells cs 5)) (.slice (some ⟨w.heap.size, 0, none⟩) n n) xs := by
  subst hn
  have hs : cs.size = xs.length * 1 := by rw [← Array.length_toList, hc]; simp
  have := World.ownsRow_lit (base := base) (e := 5) (size := 1) w cs xs.length hb (by simpa [maxLen] using hm) hs
  rw [hc] at this
  exact this

set_option maxHeartbeats 400000 in
theorem clone_any {w : World} {v : Value} {xs : List UInt8} (h : Bs w v xs) (hlen : xs.length ≤ 35184372088832) :
    Calls Tryd.prog 45 #[v] w fun e w' => ∃ A C, e = .returned (.slice A xs.length C) ∧ Kp [] w w' ∧ Ob w.heap.size w' (.slice A xs.length C) xs := by
  have hbb := h
  obtain ⟨a, c, rfl, h1, h2, h3, h4⟩ := h
  rcases a with _ | a
  · have hc0 := h3 rfl
    have hx : xs = [] := List.eq_nil_of_length_eq_zero (by omega)
    subst hx
    clear h4 h3 hc0
    have hq := eql_nil_bytes
    go_enter Tryd.func45, Tryd.ntmps45
    go_wp2_with fail
    go_ret
    exact ⟨none, 0, rfl, Kp.refl _ _, Ob.nil _ _⟩
  · clear h4 h3
    have hq := eql_nil_bytes
    have hbd := build_empty_bytes
    have HO := Lib.hid (Ob.lit (base := w.heap.size) (w := w) (Nat.le_refl _) #[] 0 [] rfl rfl (by omega))
    have HX := Lib.hid (hbb.kp ((Kp.refl [] w).alloc (.cells #[] 5)))
    clear hbb
    go_enter Tryd.func45, Tryd.ntmps45
    go_wp2_with (at_builtin; refine app_b rfl (.tmp 5) (.tmp 6) rfl w.heap.size HO.out HX.out rfl rfl (by simp; omega) (by simp) ?_; intro v1 w1 ho hg _)
    go_ret
    simp only [List.nil_append] at ho
    obtain ⟨A, C, rfl⟩ := ho.shape
    refine ⟨A, C, rfl, ((Kp.refl [] w).alloc _).grown hg ?_, ho⟩
    intro k hk
    exact .inr (by simp [Value.ownBlock] at hk; omega)

set_option maxHeartbeats 400000 in
theorem new_any {w : World} {v : Value} {xs : List UInt8} (h : Bs w v xs) (hlen : xs.length ≤ 35184372088832) :
    Calls Tryd.prog 20 #[v] w fun e w' => ∃ r, e = .returned (.pointer (some ⟨r, 0, none⟩)) ∧ w.heap.size ≤ r ∧ Kp [] w w' ∧ Rd w' r xs 0 := by
  have hC := clone_any h hlen
  clear h
  go_enter Tryd.func20, Tryd.ntmps20
  go_wp2_with (go_at_call 45; refine hC.mono ?_; rintro en w1 ⟨A, C, rfl, hk, ho⟩)
  go_ret
  refine ⟨_, rfl, hk.size, hk.alloc _, _, heap_alloc_new _ _, ho.bt.kp ((Kp.refl _ _).alloc _)⟩
end Go.Proofs.YtgmdcmkokdbeoaaDoor
