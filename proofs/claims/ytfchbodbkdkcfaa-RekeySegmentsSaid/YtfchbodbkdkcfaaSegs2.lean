/- rekey.Segments and the document's own: one list. -/
import Derived.Test.YtfchbodbkdkcfaaSegs
import Derived.Deep.Onto
namespace Go.Proofs.Ytfchbodbkdkcfaa.Coll
open Go.RowKit

def segsL (n : Int) (r : Rot) : List Sg := if segsOk n r then segsR n r else []
def segsE (n : Int) (r : Rot) : Int := if segsOk n r then 0 else 2
theorem segsOk_true {n : Int} {r : Rot} (h : segsOk n r = true) : 1 ≤ n ∧ n ≤ 4294967296 ∧ r.on = true ∧ r.done ≤ n := by
  simp only [segsOk, Bool.and_eq_true, decide_eq_true_eq] at h
  exact ⟨h.1.1.1, h.1.1.2, h.1.2, h.2⟩

set_option maxRecDepth 100000 in
set_option maxHeartbeats 4000000 in
theorem rekSegments_any (n : Int) (r : Rot) (w : World) (hn0 : 0 ≤ n) (hn1 : n < 18446744073709551616) (h0 : 0 ≤ r.done) (h1 : r.done < 18446744073709551616) :
    Calls Try.prog 12 #[.int .u64 n, rotV r] w fun e w' => ∃ v, e = .returned (.tuple #[v, .int .i64 (segsE n r)]) ∧ w'.ownsRow w.heap.size 59 3 v (segsL n r).length (sgL (segsL n r)) ∧ Below w.heap.size w w' := by
  have hcs : ∀ (wx : World), 0 ≤ r.done → r.done ≤ n → Calls Try.prog 27 #[.int .u64 n, rotV r] wx _ := fun wx a b => segments_any n r wx a b hn1
  cases hk : segsOk n r
  · have hE : segsE n r = 2 := by simp [segsE, hk]
    have hL : segsL n r = [] := by simp [segsL, hk]
    rw [hE, hL]
    clear hcs hE hL
    obtain ⟨on, fr, tn, back, mode, hot, done, off, size, active, count, sum⟩ := r
    simp only [segsOk] at hk h0 h1
    have HK := Lib.hid hk
    clear hk
    have HB := Lib.hid ((Below.refl w.heap.size w).alloc (Nat.le_refl _) (.cells #[.bool on, .int .u64 fr, .int .u64 tn, .bool back, .int .i64 mode, .int .u64 hot, .int .u64 done, .int .i64 off, .int .i64 size, .bool active, .int .u64 count, .string sum] 29))
    unfold rotV rotC
    simp only
    by_cases c1 : n < 1
    · go_enter Try.func12, Try.ntmps12
      go_wp2
      go_ret2
      exact ⟨_, rfl, World.ownsRow_nil _ _ _ _, HB.out⟩
    by_cases c2 : 4294967296 < n
    · go_enter Try.func12, Try.ntmps12
      go_wp2
      go_ret2
      exact ⟨_, rfl, World.ownsRow_nil _ _ _ _, HB.out⟩
    cases on
    · go_enter Try.func12, Try.ntmps12
      go_wp2
      go_ret2
      exact ⟨_, rfl, World.ownsRow_nil _ _ _ _, HB.out⟩
    · have c3 : n < done := by
        have := HK.out
        simp at this
        omega
      go_enter Try.func12, Try.ntmps12
      go_wp2
      go_ret2
      exact ⟨_, rfl, World.ownsRow_nil _ _ _ _, HB.out⟩
  · obtain ⟨a1, a2, a3, a4⟩ := segsOk_true hk
    have hE : segsE n r = 0 := by simp [segsE, hk]
    have hL : segsL n r = segsR n r := by simp [segsL, hk]
    rw [hE, hL]
    have HC := Lib.hid hcs
    have HCs := Lib.hid (fun (b1 b2 b3 b4 : Nat) (w : World) => collect_segs b1 b2 b3 b4 (if r.back then n - r.done else r.done) (if r.back then r.fr else r.tn) n (if r.back then r.tn else r.fr) (by split <;> omega) (by omega) (by split <;> omega) (by omega) w)
    clear hcs hE hL hk
    unfold segsR
    generalize segsOf (if r.back then n - r.done else r.done) (if r.back then r.fr else r.tn) n (if r.back then r.tn else r.fr) = L at HCs ⊢
    obtain ⟨on, fr, tn, back, mode, hot, done, off, size, active, count, sum⟩ := r
    simp only at a1 a2 a3 a4 h0 h1
    subst a3
    have HB := Lib.hid ((Below.refl w.heap.size w).alloc (Nat.le_refl _) (.cells #[.bool true, .int .u64 fr, .int .u64 tn, .bool back, .int .i64 mode, .int .u64 hot, .int .u64 done, .int .i64 off, .int .i64 size, .bool active, .int .u64 count, .string sum] 29))
    unfold rotV rotC at HC
    unfold rotV rotC
    simp only at HC ⊢
    go_enter Try.func12, Try.ntmps12
    go_wp2_with fail
    refine (HC.out _ h0 a4).mono ?_
    rintro e w2 ⟨b1, b2, b3, b4, rfl, k1, k2, k3, k4, hb2⟩
    have X2 := Lib.hid (And.intro k1 (And.intro k2 (And.intro k3 (And.intro k4 hb2))))
    clear k1 k2 k3 k4 hb2
    go_wp2_with fail
    refine (HCs.out b1 b2 b3 b4 w2 X2.out.1 X2.out.2.1 X2.out.2.2.1 X2.out.2.2.2.1).mono ?_
    rintro e w3 ⟨v, rfl, hrow, hb3⟩
    have X3 := Lib.hid (And.intro hrow hb3)
    clear hrow hb3
    go_wp2_with fail
    go_ret2
    have hb2 := X2.out.2.2.2.2
    have hB : Below w.heap.size w w2 := HB.out.trans (hb2.mono HB.out.size)
    exact ⟨_, rfl, X3.out.1.mono hB.size, hB.trans (X3.out.2.mono hB.size)⟩
end Go.Proofs.Ytfchbodbkdkcfaa.Coll
