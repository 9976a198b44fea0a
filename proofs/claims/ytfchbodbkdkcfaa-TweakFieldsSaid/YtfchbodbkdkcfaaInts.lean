/- Lists of numbers (each 0 or 1: the bits of a number) in rows of memory; append onto them. General lemmas. -/
import Derived.Test.YtfchbodbkdkcfaaHeld
import Derived.ArgAppend
namespace Go.Proofs.Ytfchbodbkdkcfaa.Ints
open Go.RowKit Go.Lib
open Go.Proofs.Ytfchbodbkdkcfaa.Blk Go.Proofs.Ytfchbodbkdkcfaa.Poly

/-- bit i of a number, as a Go int -/
def bitI (N i : Nat) : Int := if N.testBit i then 1 else 0

/-- v is a slice of n numbers f, over a block that is numbers throughout; 'g': the block -/
structure LI (w : World) (t : TypeId) (g off n cap m : Nat) (F f : Nat → Int) : Prop where
  arr : Arr w g .i64 m t F
  le : off + cap ≤ m
  len : n ≤ cap
  max : cap ≤ maxLen
  eq : ∀ i, i < n → F (off + i) = f i
section
variable {w : World} {t : TypeId} {g off n cap m : Nat} {F f : Nat → Int}
theorem LI.cell (h : LI w t g off n cap m F f) {i : Nat} (hi : i < n) : w.cell? ⟨g, off + i, none⟩ = some (.int .i64 (f i)) := by
  have h1 := h.le
  have h2 := h.len
  rw [h.arr.cell (by omega), h.eq i hi]
theorem LI.below {B : Nat} {w' : World} (h : LI w t g off n cap m F f) (hb : Below B w w') (hg : g < B) : LI w' t g off n cap m F f := ⟨h.arr.below hb hg, h.le, h.len, h.max, h.eq⟩
theorem LI.congr {f' : Nat → Int} (h : LI w t g off n cap m F f) (e : ∀ i, i < n → f i = f' i) : LI w t g off n cap m F f' := ⟨h.arr, h.le, h.len, h.max, fun i hi => by rw [h.eq i hi, e i hi]⟩
theorem LI.store (h : LI w t g off n cap m F f) (i : Nat) (x : Int) : LI (w.setCell ⟨g, off + i, none⟩ (.int .i64 x)) t g off n cap m (upd F (off + i) x) (upd f i x) :=
  ⟨h.arr.store _ _, h.le, h.len, h.max, fun j hj => by
    unfold upd
    by_cases e : j = i
    · subst e; simp
    · rw [if_neg (by omega), if_neg e]; exact h.eq j hj⟩
theorem LI.news (h : LI w t g off n cap m F f) : ∀ j u, ((List.range n).map fun i => Value.int .i64 (f i))[j]? = some u → w.cell? ((⟨g, off, none⟩ : Addr).add j) = some u := fun j u hu => by
  have hj : j < n := by
    have := (List.getElem?_eq_some_iff.1 hu).1
    simpa using this
  rw [Addr.add_mid, h.cell hj]
  simpa [hj] using hu
end
theorem one_ints (f : Nat → Int) (n : Nat) : ∀ u ∈ (List.range n).map fun i => Value.int .i64 (f i), u.oneCell' = true := fun u hu => by
  obtain ⟨i, _, rfl⟩ := List.mem_map.1 hu
  rfl

theorem new_block (f f2 : Nat → Int) (n k q : Nat) (hge : n + k ≤ q) : ((List.range n).map fun i => Value.int .i64 (f i)).toArray ++ ((List.range k).map fun i => Value.int .i64 (f2 i)).toArray ++ Builtin.zeroCells (Value.int .i64 0).cells (q - (n + k)) =
    arr .i64 q (fun j => if j < n then f j else if j < n + k then f2 (j - n) else 0) := by
  apply Array.ext_getElem?
  intro j
  by_cases hj : j < q
  · rw [arr_get _ _ _ _ hj]
    by_cases e1 : j < n
    · rw [Array.getElem?_append_left (by simp; omega), Array.getElem?_append_left (by simp; omega)]
      simp [e1]
    · by_cases e2 : j < n + k
      · rw [Array.getElem?_append_left (by simp; omega), Array.getElem?_append_right (by simp; omega)]
        simp [e1, e2, show j - n < k by omega]
      · rw [Array.getElem?_append_right (by simp; omega)]
        simp only [e1, e2, if_false, Builtin.zeroCells, Value.cells]
        rw [Array.getElem?_map, Array.getElem?_range, if_pos (by simp; omega)]
        simp [Nat.mod_one]
  · rw [Array.getElem?_eq_none (by simp [size_zeroCells, Value.cells]; omega), Array.getElem?_eq_none (by rw [arr_size]; omega)]

/-- a list of the call's own: nil, or a new block's from its head on -/
def OL (w : World) (N : Nat) (t : TypeId) (v : Value) (n : Nat) (f : Nat → Int) : Prop := (v = .slice none 0 0 ∧ n = 0) ∨ ∃ g cap m F, v = .slice (some ⟨g, 0, none⟩) n cap ∧ N ≤ g ∧ LI w t g 0 n cap m F f
theorem OL.lt {w : World} {N : Nat} {t : TypeId} {v : Value} {n : Nat} {f : Nat → Int} (h : OL w N t v n f) {g : Nat} (hg : v.ownBlock = some g) : N ≤ g ∧ g < w.heap.size := by
  rcases h with ⟨rfl, _⟩ | ⟨g', cap, m, F, rfl, h1, h2⟩
  · cases hg
  · obtain rfl : g' = g := by simpa [Value.ownBlock] using hg
    exact ⟨h1, h2.arr.lt⟩
theorem OL.congr {w : World} {N : Nat} {t : TypeId} {v : Value} {n : Nat} {f f' : Nat → Int} (h : OL w N t v n f) (e : ∀ i, i < n → f i = f' i) : OL w N t v n f' := by
  rcases h with h | ⟨g', cap, m, F, rfl, h1, h2⟩
  · exact .inl h
  · exact .inr ⟨g', cap, m, F, rfl, h1, h2.congr e⟩
theorem OL.keep {w w' : World} {N : Nat} {t : TypeId} {v : Value} {n : Nat} {f : Nat → Int} (h : OL w N t v n f) (hb : Below w.heap.size w w') : OL w' N t v n f := by
  rcases h with h | ⟨g', cap, m, F, rfl, h1, h2⟩
  · exact .inl h
  · exact .inr ⟨g', cap, m, F, rfl, h1, h2.below hb h2.arr.lt⟩

section
variable {P : Program}
/-- append: one list onto another; the outcome lies in the old block or in a new one -/
theorem run_append_ints (w : World) (t ty e : TypeId) (i : TypeInfo) (ht : P.underlying t = some (.slice e)) (hi : P.info? e = some i) (hz : i.zero = some (.int .i64 0)) (hs : i.size = 1) (hby : i.bytes = 8)
    {g off n cap m : Nat} {F f : Nat → Int} (h : LI w e g off n cap m F f) {g2 off2 k cap2 m2 : Nat} {F2 f2 : Nat → Int} {t2 : TypeId} (h2 : LI w t2 g2 off2 k cap2 m2 F2 f2) (hne : cap < n + k ∨ g2 ≠ g) (hsmall : n + k ≤ 1000000) :
    ∃ g' off' cap' m' F' w', (Builtin.append_ #[t, t] ty #[.slice (some ⟨g, off, none⟩) n cap, .slice (some ⟨g2, off2, none⟩) k cap2]).run P w = .ok (.slice (some ⟨g', off', none⟩) (n + k) cap') w' ∧
      LI w' e g' off' (n + k) cap' m' F' (fun j => if j < n then f j else f2 (j - n)) ∧ w.grownBy w' (some g) ∧ ((g' = g ∧ off' = off ∧ cap' = cap ∧ m' = m ∧ w'.heap.size = w.heap.size) ∨ (g' = w.heap.size ∧ off' = 0 ∧ cap < n + k ∧ w.grownBy w' none)) := by
  have hh1 := h.le
  have hh2 := h.len
  by_cases hroom : n + k ≤ cap
  · have hne' : g2 ≠ g := by rcases hne with h' | h' <;> omega
    have hr := run_append_room_cells (P := P) w t ty e i ht hi g off n cap ⟨g2, off2, none⟩ k cap2 ((List.range k).map fun i => Value.int .i64 (f2 i)) (by simp [hs]) h2.news (one_ints _ _) hroom
      (fun j hj => by rw [hs, Nat.mul_one, h.arr.cell (by simp at hj; omega)]; rfl) (fun j hj => h.arr.free _)
    rw [hs, Nat.mul_one] at hr
    -- the world after some stores
    have key : ∀ (l : List Nat) (o : Nat) (w1 : World) (F1 : Nat → Int), (∀ (p : Nat), p < l.length → o + p < m) → Arr w1 g .i64 m e F1 → w.grownBy w1 (some g) → w1.heap.size = w.heap.size → (∀ i, i < l.length → l[i]? = some (o + i - (off + n))) → off + n ≤ o →
        ∃ F', Arr (w1.setCells g o (l.map fun i => Value.int .i64 (f2 i))) g .i64 m e F' ∧ w.grownBy (w1.setCells g o (l.map fun i => Value.int .i64 (f2 i))) (some g) ∧ (w1.setCells g o (l.map fun i => Value.int .i64 (f2 i))).heap.size = w.heap.size ∧
          ∀ j, F' j = if o ≤ j ∧ j < o + l.length then f2 (j - (off + n)) else F1 j := by
      intro l
      induction l with
      | nil => intro o w1 F1 _ hA hG hS _ _; exact ⟨F1, hA, hG, hS, fun j => by rw [if_neg (by simp)]⟩
      | cons a l ih =>
        intro o w1 F1 hm hA hG hS hl ho
        have ha : a = o - (off + n) := by have := hl 0 (by simp); simpa using this
        obtain ⟨F', h1, h2, h3, h4⟩ := ih (o + 1) (w1.setCell ⟨g, o, none⟩ (.int .i64 (f2 a))) (upd F1 o (f2 a)) (fun p hp => by have := hm (p + 1) (by simp; omega); omega) (hA.store o _) (gb_setCell hG o _) (by simpa using hS)
          (fun i hi => by have := hl (i + 1) (by simp; omega); simp only [List.getElem?_cons_succ] at this; rw [this]; congr 1; omega) (by omega)
        refine ⟨F', h1, h2, h3, fun j => ?_⟩
        rw [h4 j]
        simp only [List.length_cons]
        by_cases e1 : j = o
        · subst e1
          rw [if_neg (by omega), if_pos (by omega), ha]
          simp [upd]
        · by_cases e2 : o + 1 ≤ j ∧ j < o + 1 + l.length
          · rw [if_pos e2, if_pos (by omega)]
          · rw [if_neg e2, if_neg (by omega)]; simp [upd, e1]
    obtain ⟨F', k1, k2, k3, k4⟩ := key (List.range k) (off + n) w F (fun p hp => by simp at hp; omega) h.arr (gb_refl w _) rfl (fun i hi => by simp at hi; simp [hi]) (Nat.le_refl _)
    refine ⟨g, off, cap, m, F', _, hr, ⟨k1, h.le, hroom, h.max, fun j hj => ?_⟩, k2, .inl ⟨rfl, rfl, rfl, rfl, k3⟩⟩
    rw [k4 (off + j)]
    by_cases e1 : j < n
    · rw [if_neg (by omega), if_pos e1]; exact h.eq j e1
    · rw [if_pos (by simp; omega), if_neg e1, show off + j - (off + n) = j - n by omega]
  · have hr := run_append_grow (P := P) w t ty e i _ ht hi hz ⟨g, off, none⟩ n cap ((List.range n).map fun i => Value.int .i64 (f i)) (by simp [hs]) h.news ⟨g2, off2, none⟩ k cap2 ((List.range k).map fun i => Value.int .i64 (f2 i)) (by simp [hs]) h2.news
      (by omega) (by omega) (growslice_fits (by omega) (by rw [hby]; omega))
    have hge := grownCap_ge w (n + k) cap e
    have hmx := grownCap_le_maxLen w (n + k) cap e (by simp only [maxLen]; omega)
    generalize grownCap w (n + k) cap e = q at hr hge hmx
    have e0 := new_block f f2 n k q hge
    rw [e0] at hr
    have hgb : ∀ o, w.grownBy (w.drew.alloc (.cells (arr .i64 q (fun j => if j < n then f j else if j < n + k then f2 (j - n) else 0)) e)) o :=
      fun _ => ⟨rfl, rfl, rfl, by simp, fun c hc _ => heap_alloc_old w.drew _ hc⟩
    refine ⟨w.heap.size, 0, q, q, _, _, hr, ⟨Arr.new w.drew .i64 q e _, by omega, hge, hmx, fun j hj => ?_⟩, hgb _, .inr ⟨rfl, rfl, by omega, hgb _⟩⟩
    simp only [Nat.zero_add]
    by_cases e1 : j < n
    · rw [if_pos e1, if_pos e1]
    · rw [if_neg e1, if_neg e1, if_pos hj]
end
section
variable {P : Program}
/-- append onto a list of the call's own -/
theorem run_append_ol (w : World) (N : Nat) (t ty e : TypeId) (i : TypeInfo) (ht : P.underlying t = some (.slice e)) (hi : P.info? e = some i) (hz : i.zero = some (.int .i64 0)) (hs : i.size = 1) (hby : i.bytes = 8) (hN : N ≤ w.heap.size)
    {v : Value} {n : Nat} {f : Nat → Int} (h : OL w N e v n f) {g2 off2 k cap2 m2 : Nat} {F2 f2 : Nat → Int} {t2 : TypeId} (h2 : LI w t2 g2 off2 k cap2 m2 F2 f2) (hne : ∀ g, v.ownBlock = some g → g2 ≠ g) (hk : 0 < k) (hsmall : n + k ≤ 1000000) :
    ∃ v' w', (Builtin.append_ #[t, t] ty #[v, .slice (some ⟨g2, off2, none⟩) k cap2]).run P w = .ok v' w' ∧ OL w' N e v' (n + k) (fun j => if j < n then f j else f2 (j - n)) ∧ Below N w w' ∧ w.grownBy w' v.ownBlock := by
  rcases h with ⟨rfl, rfl⟩ | ⟨g, cap, m, F, rfl, hg, hl⟩
  · have hr := run_append_nil (P := P) w t ty e i _ ht hi hz ⟨g2, off2, none⟩ k cap2 ((List.range k).map fun i => Value.int .i64 (f2 i)) (by simp [hs]) h2.news hk (by omega) (by rw [hby]; omega)
    have hge := grownCap_ge w k 0 e
    have hmx := grownCap_le_maxLen w k 0 e (by simp only [maxLen]; omega)
    generalize grownCap w k 0 e = q at hr hge hmx
    have e0 := new_block f f2 0 k q (by omega)
    simp only [List.range_zero, List.map_nil, Nat.zero_add, Array.empty_append] at e0
    rw [e0] at hr
    have hgb : ∀ o, w.grownBy (w.drew.alloc (.cells (arr .i64 q (fun j => if j < 0 then f j else if j < k then f2 (j - 0) else 0)) e)) o :=
      fun _ => ⟨rfl, rfl, rfl, by simp, fun c hc _ => heap_alloc_old w.drew _ hc⟩
    refine ⟨_, _, hr, .inr ⟨w.heap.size, q, q, _, by rw [Nat.zero_add], hN, ⟨Arr.new w.drew .i64 q e _, by omega, by omega, hmx, fun j hj => ?_⟩⟩, Held.gb_below (hgb none) hN (fun _ h => by cases h), hgb _⟩
    simp only [Nat.zero_add, Nat.not_lt_zero, if_false]
    rw [if_pos (by omega)]
  · obtain ⟨g', off', cap', m', F', w', hr, h3, h4, h5⟩ := run_append_ints (P := P) w t ty e i ht hi hz hs hby hl h2 (.inr (hne g rfl)) hsmall
    rcases h5 with ⟨rfl, rfl, rfl, rfl, _⟩ | ⟨rfl, rfl, _, _⟩
    · exact ⟨_, _, hr, .inr ⟨_, _, _, _, rfl, hg, h3⟩, Held.gb_below h4 hN (fun q hq => by cases hq; exact hg), h4⟩
    · exact ⟨_, _, hr, .inr ⟨_, _, _, _, rfl, hN, h3⟩, Held.gb_below h4 hN (fun q hq => by cases hq; exact hg), h4⟩
end
/-- what is asked of the type int -/
structure IntTy (P : Program) (t e : TypeId) (i : TypeInfo) : Prop where
  sl : P.underlying t = some (.slice e)
  info : P.info? e = some i
  zero : i.zero = some (.int .i64 0)
  size : i.size = 1
  bytes : i.bytes = 8
theorem int_ty : ∃ i, IntTy Try.prog 68 3 i := by
  have h : (Try.prog.info? 3).map (fun i => (i.size, i.bytes, i.zero)) = some (1, 8, some (.int .i64 0)) := by kernel_rfl
  cases hi : Try.prog.info? 3 with
  | none => simp [hi] at h
  | some I =>
    simp only [hi, Option.map_some, Option.some.injEq, Prod.mk.injEq] at h
    exact ⟨I, Try.underlying68, hi, h.2.2, h.1, h.2.1⟩

section
variable {P : Program} {o : Oper} {a : Act} {w : World} {K : Act → World → Prop} {Q : Exit → Act → World → Prop}
theorem w_append_ints {t e : TypeId} {i : TypeInfo} (ty : IntTy P t e i) (s x : Operand) (ho : o.op = .call { callee := .builtin .append, args := #[s, x], argTypes := #[t, t] })
    {g off n cap m : Nat} {F f : Nat → Int} (hs : a.eval s = .slice (some ⟨g, off, none⟩) n cap) (h : LI w e g off n cap m F f) {g2 off2 k cap2 m2 : Nat} {F2 f2 : Nat → Int} {t2 : TypeId} (hx : a.eval x = .slice (some ⟨g2, off2, none⟩) k cap2) (h2 : LI w t2 g2 off2 k cap2 m2 F2 f2)
    (hne : cap < n + k ∨ g2 ≠ g) (hsmall : n + k ≤ 1000000)
    (hk : ∀ g' off' cap' m' F' w', LI w' e g' off' (n + k) cap' m' F' (fun j => if j < n then f j else f2 (j - n)) → w.grownBy w' (some g) → ((g' = g ∧ off' = off ∧ cap' = cap ∧ m' = m ∧ w'.heap.size = w.heap.size) ∨ (g' = w.heap.size ∧ off' = 0 ∧ cap < n + k ∧ w.grownBy w' none)) →
      K (a.put o.dst (.slice (some ⟨g', off', none⟩) (n + k) cap')) w') : o.wp P a w K Q := by
  obtain ⟨g', off', cap', m', F', w', hr, h3, h4, h5⟩ := run_append_ints (P := P) w t o.type e i ty.sl ty.info ty.zero ty.size ty.bytes h h2 hne hsmall
  unfold Oper.wp execOp
  simp only [ho, resolve, invoke, builtin, Sem.run_bind, Sem.run_pure, Result.andThen_ok, List.map_toArray, List.map_cons, List.map_nil, hs, hx, hr]
  exact hk g' off' cap' m' F' w' h3 h4 h5
theorem w_append_ol {t e : TypeId} {i : TypeInfo} (ty : IntTy P t e i) (N : Nat) (s x : Operand) (ho : o.op = .call { callee := .builtin .append, args := #[s, x], argTypes := #[t, t] }) (hN : N ≤ w.heap.size)
    {v : Value} {n : Nat} {f : Nat → Int} (hs : a.eval s = v) (h : OL w N e v n f) {g2 off2 k cap2 m2 : Nat} {F2 f2 : Nat → Int} {t2 : TypeId} (hx : a.eval x = .slice (some ⟨g2, off2, none⟩) k cap2) (h2 : LI w t2 g2 off2 k cap2 m2 F2 f2)
    (hne : ∀ g, v.ownBlock = some g → g2 ≠ g) (hk : 0 < k) (hsmall : n + k ≤ 1000000)
    (hK : ∀ v' w', OL w' N e v' (n + k) (fun j => if j < n then f j else f2 (j - n)) → Below N w w' → w.grownBy w' v.ownBlock → K (a.put o.dst v') w') : o.wp P a w K Q := by
  obtain ⟨v', w', hr, h3, h4, h5⟩ := run_append_ol (P := P) w N t o.type e i ty.sl ty.info ty.zero ty.size ty.bytes hN h h2 hne hk hsmall
  unfold Oper.wp execOp
  simp only [ho, resolve, invoke, builtin, Sem.run_bind, Sem.run_pure, Result.andThen_ok, List.map_toArray, List.map_cons, List.map_nil, hs, hx, hr]
  exact hK v' w' h3 h4 h5
end
end Go.Proofs.Ytfchbodbkdkcfaa.Ints
