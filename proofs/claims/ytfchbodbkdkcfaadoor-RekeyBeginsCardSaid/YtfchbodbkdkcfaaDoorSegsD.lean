/- The document's own Segments of a rotation (cofferref13), for a program without rekey.Segments. -/
import Derived.Test.YtfchbodbkdkcfaaDoorSegs
namespace Go.Proofs.YtfchbodbkdkcfaaDoor.Coll
open Go.RowKit

def segsL (n : Int) (r : Rot) : List Sg := if segsOk n r then segsR n r else []
def segsE (n : Int) (r : Rot) : Int := if segsOk n r then 0 else 2
theorem segsOk_true {n : Int} {r : Rot} (h : segsOk n r = true) : 1 ≤ n ∧ n ≤ 4294967296 ∧ r.on = true ∧ r.done ≤ n := by
  simp only [segsOk, Bool.and_eq_true, decide_eq_true_eq] at h
  exact ⟨h.1.1.1, h.1.1.2, h.1.2, h.2⟩

def keepL (x y : Sg) : List Sg := (if 0 < x.2.1 then [x] else []) ++ (if 0 < y.2.1 then [y] else [])
def firstOf (n : Int) (r : Rot) : Sg := if r.back then (0, n - r.done, r.fr) else (0, r.done, r.tn)
def secondOf (n : Int) (r : Rot) : Sg := if r.back then (n - r.done, r.done, r.tn) else (r.done, n - r.done, r.fr)
theorem keep_eq (n : Int) (r : Rot) (h0 : 0 ≤ r.done) (h1 : r.done ≤ n) : keepL (firstOf n r) (secondOf n r) = segsR n r := by
  unfold keepL firstOf secondOf segsR segsOf
  cases r.back
  · simp only [Bool.false_eq_true, if_false]
    congr 1
    by_cases c : r.done < n
    · rw [if_pos (by omega), if_pos c]
    · rw [if_neg (by omega), if_neg c]
  · simp only [if_true]
    congr 1
    by_cases c : 0 < r.done
    · rw [if_pos c, if_pos (by omega), show n - (n - r.done) = r.done by omega]
    · rw [if_neg c, if_neg (by omega)]

theorem al3 (w : World) (a b c : Obj) :
    (((w.alloc a).alloc b).alloc c).heap[w.heap.size + 1]? = some b ∧ (((w.alloc a).alloc b).alloc c).heap[w.heap.size + 1 + 1]? = some c ∧ Below w.heap.size w (((w.alloc a).alloc b).alloc c) := by
  have s1 : (w.alloc a).heap.size = w.heap.size + 1 := by simp
  have s2 : ((w.alloc a).alloc b).heap.size = w.heap.size + 1 + 1 := by simp
  have n3 := heap_alloc_new ((w.alloc a).alloc b) c
  have n2 := heap_alloc_new (w.alloc a) b
  rw [s2] at n3
  rw [s1] at n2
  refine ⟨?_, n3, (((Below.refl _ w).alloc (Nat.le_refl _) _).alloc (by omega) _).alloc (by omega) _⟩
  rw [heap_alloc_old _ _ (by omega)]
  exact n2

set_option maxRecDepth 100000 in
set_option maxHeartbeats 4000000 in
theorem refSegments_any (n : Int) (r : Rot) (w : World) (hn0 : 0 ≤ n) (hn1 : n < 18446744073709551616) (h0 : 0 ≤ r.done) (h1 : r.done < 18446744073709551616) :
    Calls Tryd.prog 71 #[.int .u64 n, rotV r] w fun e w' => ∃ v, e = .returned (.tuple #[v, .int .i64 (segsE n r)]) ∧ w'.ownsRow w.heap.size 92 3 v (segsL n r).length (sgL (segsL n r)) ∧ Below w.heap.size w w' := by
  cases hk : segsOk n r
  · have hE : segsE n r = 2 := by simp [segsE, hk]
    have hL : segsL n r = [] := by simp [segsL, hk]
    rw [hE, hL]
    clear hE hL
    obtain ⟨on, fr, tn, back, mode, hot, done, off, size, active, count, sum⟩ := r
    simp only [segsOk] at hk h0 h1
    have HK := Lib.hid hk
    clear hk
    have HB := Lib.hid ((Below.refl w.heap.size w).alloc (Nat.le_refl _) (.cells #[.bool on, .int .u64 fr, .int .u64 tn, .bool back, .int .i64 mode, .int .u64 hot, .int .u64 done, .int .i64 off, .int .i64 size, .bool active, .int .u64 count, .string sum] 53))
    unfold rotV rotC
    simp only
    by_cases c1 : n < 1
    · go_enter Tryd.func71, Tryd.ntmps71
      go_wp2
      go_ret2
      exact ⟨_, rfl, World.ownsRow_nil _ _ _ _, HB.out⟩
    by_cases c2 : 4294967296 < n
    · go_enter Tryd.func71, Tryd.ntmps71
      go_wp2
      go_ret2
      exact ⟨_, rfl, World.ownsRow_nil _ _ _ _, HB.out⟩
    cases on
    · go_enter Tryd.func71, Tryd.ntmps71
      go_wp2
      go_ret2
      exact ⟨_, rfl, World.ownsRow_nil _ _ _ _, HB.out⟩
    · have c3 : n < done := by
        have := HK.out
        simp at this
        omega
      go_enter Tryd.func71, Tryd.ntmps71
      go_wp2
      go_ret2
      exact ⟨_, rfl, World.ownsRow_nil _ _ _ _, HB.out⟩
  · obtain ⟨a1, a2, a3, a4⟩ := segsOk_true hk
    have hE : segsE n r = 0 := by simp [segsE, hk]
    have hL : segsL n r = keepL (firstOf n r) (secondOf n r) := by rw [keep_eq n r h0 a4]; simp [segsL, hk]
    rw [hE, hL]
    have HF : Hid (firstOf n r = if r.back then (0, n - r.done, r.fr) else (0, r.done, r.tn)) := Lib.hid rfl
    have HS : Hid (secondOf n r = if r.back then (n - r.done, r.done, r.tn) else (r.done, n - r.done, r.fr)) := Lib.hid rfl
    clear hE hL hk
    generalize firstOf n r = x at HF ⊢
    generalize secondOf n r = y at HS ⊢
    obtain ⟨on, fr, tn, back, mode, hot, done, off, size, active, count, sum⟩ := r
    obtain ⟨x0, x1, x2⟩ := x
    obtain ⟨y0, y1, y2⟩ := y
    simp only at a1 a2 a3 a4 h0 h1 HF HS
    subst a3
    have HB := Lib.hid ((Below.refl w.heap.size w).alloc (Nat.le_refl _) (.cells #[.bool true, .int .u64 fr, .int .u64 tn, .bool back, .int .i64 mode, .int .u64 hot, .int .u64 done, .int .i64 off, .int .i64 size, .bool active, .int .u64 count, .string sum] 53))
    obtain ⟨LK, hLK⟩ : ∃ LK, keepL (x0, x1, x2) (y0, y1, y2) = LK := ⟨_, rfl⟩
    rw [hLK]
    have HLK := Lib.hid hLK
    clear hLK
    unfold rotV rotC
    simp only
    go_enter Tryd.func71, Tryd.ntmps71
    go_upto_if 41 with (fail)
    go_cut [] from 42 to 57 (fun wx => wx.heap[w.heap.size + 1]? = some (.cells #[.int .u64 x0, .int .u64 x1, .int .u64 x2] 92 (0, 0)) ∧ wx.heap[w.heap.size + 1 + 1]? = some (.cells #[.int .u64 y0, .int .u64 y1, .int .u64 y2] 92 (0, 0)) ∧ Below w.heap.size w wx)
    case first =>
      cases back
      all_goals
        have hf := HF.out
        have hs := HS.out
        simp only [Bool.false_eq_true, if_false, if_true, Prod.mk.injEq] at hf hs
        obtain ⟨rfl, rfl, rfl⟩ := hf
        obtain ⟨rfl, rfl, rfl⟩ := hs
        go_wp2_with fail
        go_meet
        case rel => exact al3 w _ _ _
    clear HF HS HB
    obtain ⟨o1, o2, hB⟩ := hcut
    obtain ⟨i0, hi, hz0, hz1, hz2⟩ := info_parts sg_info
    have HX := Lib.hid o1
    have HY := Lib.hid o2
    have HB := Lib.hid hB
    have k0 := cell_of_row wc (w.heap.size + 1) 0 _ _ _ o1
    have k1 := cell_of_row wc (w.heap.size + 1) 1 _ _ _ o1
    have k2 := cell_of_row wc (w.heap.size + 1) 2 _ _ _ o1
    have m0 := cell_of_row wc (w.heap.size + 1 + 1) 0 _ _ _ o2
    have m1 := cell_of_row wc (w.heap.size + 1 + 1) 1 _ _ _ o2
    have m2 := cell_of_row wc (w.heap.size + 1 + 1) 2 _ _ _ o2
    simp at k0 k1 k2 m0 m1 m2
    clear o1 o2 hB a4 h0 h1
    by_cases p1 : 0 < x1
    · by_cases p2 : 0 < y1
      · have e : LK = [(x0, x1, x2), (y0, y1, y2)] := by rw [← HLK.out]; simp [keepL, p1, p2]
        have HE := Lib.hid e
        clear e
        go_upto_region 11 with (first | (at_builtin; refine wpList_append_own_at _ rfl _ _ 49 rfl w.heap.size 92 i0 (.agg #[.int .u64 0, .int .u64 0, .int .u64 0]) 3 24 Tryd.underlying49 hi hz0 hz1 hz2 rfl (by decide) _ 0 [] rfl ((World.ownsRow_nil wc w.heap.size _ 3).alloc _) ⟨wc.heap.size, 0, none⟩ 1 1 (sgC (x0, x1, x2)) rfl rfl (sg_new wc (x0, x1, x2) _) (sg_one (x0, x1, x2)) (by unfold maxLen; omega) (by omega) ?_ ?_) | fail)
        · have := HB.out.size; simp; omega
        · intro v' w1 hown hgrow _ hat
          obtain ⟨g', cap', rfl⟩ := ownsRow_succ hown
          have hX := HY.out
          have hl2 : w.heap.size + 1 + 1 < wc.heap.size := (Array.getElem?_eq_some_iff.1 hX).1
          have o3 := (hgrow.block (w.heap.size + 1 + 1) (by simp; omega) (by simp [Value.ownBlock])).trans ((Below.heap_alloc wc _ _ hl2).trans hX)
          have HB1 := Lib.hid ((HB.out.alloc HB.out.size _).grown hgrow (by have := HB.out.size; simp; omega) (fun j hj => by cases hj))
          have HO := Lib.hid hown
          have b0 := cell_of_row w1 (w.heap.size + 1 + 1) 0 _ _ _ o3
          have b1 := cell_of_row w1 (w.heap.size + 1 + 1) 1 _ _ _ o3
          have b2 := cell_of_row w1 (w.heap.size + 1 + 1) 2 _ _ _ o3
          simp at b0 b1 b2
          clear hown hgrow hat o3 hX k0 k1 k2 m0 m1 m2 HX HY
          go_wp2_with (first | (at_builtin; refine wpList_append_own_at _ rfl _ _ 49 rfl w.heap.size 92 i0 (.agg #[.int .u64 0, .int .u64 0, .int .u64 0]) 3 24 Tryd.underlying49 hi hz0 hz1 hz2 rfl (by decide) _ 1 (sgC (x0, x1, x2)) rfl (HO.out.alloc _) ⟨w1.heap.size, 0, none⟩ 1 1 (sgC (y0, y1, y2)) rfl rfl (sg_new w1 (y0, y1, y2) _) (sg_one (y0, y1, y2)) (by unfold maxLen; omega) (by omega) ?_ ?_) | fail)
          · have := HB1.out.size; simp; omega
          · intro v2 w2 hown2 hgrow2 _ _
            have HO2 := Lib.hid hown2
            have HB2 := Lib.hid ((HB1.out.alloc HB1.out.size _).grown hgrow2 (by have := HB1.out.size; simp; omega) (fun j hj => (HO.out.lt j hj).1))
            clear hown2 hgrow2
            go_wp2_with fail
            go_ret2
            exact ⟨_, rfl, by rw [HE.out]; exact HO2.out, HB2.out⟩
      · have e : LK = [(x0, x1, x2)] := by rw [← HLK.out]; simp [keepL, p1, p2]
        have HE := Lib.hid e
        clear e
        go_upto_region 11 with (first | (at_builtin; refine wpList_append_own_at _ rfl _ _ 49 rfl w.heap.size 92 i0 (.agg #[.int .u64 0, .int .u64 0, .int .u64 0]) 3 24 Tryd.underlying49 hi hz0 hz1 hz2 rfl (by decide) _ 0 [] rfl ((World.ownsRow_nil wc w.heap.size _ 3).alloc _) ⟨wc.heap.size, 0, none⟩ 1 1 (sgC (x0, x1, x2)) rfl rfl (sg_new wc (x0, x1, x2) _) (sg_one (x0, x1, x2)) (by unfold maxLen; omega) (by omega) ?_ ?_) | fail)
        · have := HB.out.size; simp; omega
        · intro v' w1 hown hgrow _ hat
          obtain ⟨g', cap', rfl⟩ := ownsRow_succ hown
          have hX := HY.out
          have hl2 : w.heap.size + 1 + 1 < wc.heap.size := (Array.getElem?_eq_some_iff.1 hX).1
          have o3 := (hgrow.block (w.heap.size + 1 + 1) (by simp; omega) (by simp [Value.ownBlock])).trans ((Below.heap_alloc wc _ _ hl2).trans hX)
          have HB1 := Lib.hid ((HB.out.alloc HB.out.size _).grown hgrow (by have := HB.out.size; simp; omega) (fun j hj => by cases hj))
          have HO := Lib.hid hown
          have b1 := cell_of_row w1 (w.heap.size + 1 + 1) 1 _ _ _ o3
          simp at b1
          clear hown hgrow hat o3 hX k0 k1 k2 m0 m1 m2 HX HY
          go_wp2_with fail
          go_ret2
          exact ⟨_, rfl, by rw [HE.out]; exact HO.out, HB1.out⟩
    · by_cases p2 : 0 < y1
      · have e : LK = [(y0, y1, y2)] := by rw [← HLK.out]; simp [keepL, p1, p2]
        have HE := Lib.hid e
        clear e
        clear k0 k2
        go_wp2_with (first | (at_builtin; refine wpList_append_own_at _ rfl _ _ 49 rfl w.heap.size 92 i0 (.agg #[.int .u64 0, .int .u64 0, .int .u64 0]) 3 24 Tryd.underlying49 hi hz0 hz1 hz2 rfl (by decide) _ 0 [] rfl ((World.ownsRow_nil wc w.heap.size _ 3).alloc _) ⟨wc.heap.size, 0, none⟩ 1 1 (sgC (y0, y1, y2)) rfl rfl (sg_new wc (y0, y1, y2) _) (sg_one (y0, y1, y2)) (by unfold maxLen; omega) (by omega) ?_ ?_) | fail)
        · have := HB.out.size; simp; omega
        · intro v' w1 hown hgrow _ hat
          have HB1 := Lib.hid ((HB.out.alloc HB.out.size _).grown hgrow (by have := HB.out.size; simp; omega) (fun j hj => by cases hj))
          have HO := Lib.hid hown
          clear hown hgrow hat
          go_wp2_with fail
          go_ret2
          exact ⟨_, rfl, by rw [HE.out]; exact HO.out, HB1.out⟩
      · have e : LK = [] := by rw [← HLK.out]; simp [keepL, p1, p2]
        have HE := Lib.hid e
        clear e
        go_wp2
        go_ret2
        exact ⟨_, rfl, by rw [HE.out]; exact World.ownsRow_nil _ _ _ _, HB.out⟩
end Go.Proofs.YtfchbodbkdkcfaaDoor.Coll
