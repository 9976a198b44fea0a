/- rekey.segments gives an iterator; slices.Collect of it is the list of segments, in a block of the call's own. -/
import Derived.Test.YtfchbodbkdkcfaaDoorBase
import Derived.RangeFuncNested
import Derived.RangeFuncBound
import Derived.RangeFuncCalls
import Derived.RangeFuncLeaves
import Derived.Shelf.Abstract
import Derived.Shelf.RegionOpen
import Derived.OwnWalkIn
import Derived.TacticsInMore
import Derived.LoopNIn
import Derived.LoopIn
namespace Go.Proofs.YtfchbodbkdkcfaaDoor.Coll
open Go.RowKit Go.Shelf
attribute [local go_sem] Oper.semAt_some

/-- a segment: its start, its count, its epoch -/
abbrev Sg := Int × Int × Int
def sgV (x : Sg) : Value := .agg #[.int .u64 x.1, .int .u64 x.2.1, .int .u64 x.2.2]
def sgC (x : Sg) : List Value := [.int .u64 x.1, .int .u64 x.2.1, .int .u64 x.2.2]
def sgL (l : List Sg) : List Value := l.flatMap sgC
theorem sgL_snoc (l : List Sg) (x : Sg) : sgL (l ++ [x]) = sgL l ++ sgC x := by simp [sgL]
theorem sgL_len (l : List Sg) : (sgL l).length = l.length * 3 := by
  induction l with
  | nil => rfl
  | cons x l ih => simp only [sgL, List.flatMap_cons, List.length_append] at ih ⊢; rw [ih]; simp [sgC]; omega
/-- what the iterator gives -/
def segsOf (cut low n high : Int) : List Sg := (if 0 < cut then [(0, cut, low)] else []) ++ (if cut < n then [(cut, n - cut, high)] else [])
theorem segsOf_len (cut low n high : Int) : (segsOf cut low n high).length ≤ 2 := by
  unfold segsOf
  split <;> split <;> simp

set_option maxRecDepth 100000 in
set_option maxHeartbeats 2000000 in
/-- the iterator's body, for every loop body that keeps what lay below n₀ -/
theorem iter_in (F : Fence) (n : Nat) (h6 : F.fn 92) (hro : F.round = none) (hn : 1 ≤ n) (l n₀ b1 b2 b3 b4 : Nat) (cut low N high : Int) (l1 : b1 < n₀) (l3 : b3 < n₀) (l4 : b4 < n₀) (hcut : 0 ≤ cut) (hN : 0 ≤ N) (hc64 : cut < 18446744073709551616) (hN64 : N < 18446744073709551616)
    (J Jx : List Sg → World → Prop)
    (hY : ∀ pre x W, J pre W → pre.length < 2 → YieldAt F (n - 1) Tryd.prog l #[sgV x] W fun e W' =>
      (e = .returned (.bool true) ∧ J (pre ++ [x]) W' ∧ Below n₀ W W') ∨ (e = .returned (.bool false) ∧ Jx (pre ++ [x]) W'))
    (W : World) (k1 : W.cell? ⟨b1, 0, none⟩ = some (.int .u64 cut)) (k2 : W.cell? ⟨b2, 0, none⟩ = some (.int .u64 low)) (k3 : W.cell? ⟨b3, 0, none⟩ = some (.int .u64 N)) (k4 : W.cell? ⟨b4, 0, none⟩ = some (.int .u64 high)) (h0 : J [] W) :
    CallsIn F n Tryd.prog 92 #[.func (.yield l) #[] #[], .pointer (some ⟨b1, 0, none⟩), .pointer (some ⟨b2, 0, none⟩), .pointer (some ⟨b3, 0, none⟩), .pointer (some ⟨b4, 0, none⟩)] W fun e W' => (∃ v, e = .returned v) ∧
      ((∃ ys, ys = segsOf cut low N high ∧ J ys W') ∨ (∃ pre, True ∧ Jx pre W')) := by
  unfold segsOf
  by_cases c1 : 0 < cut
  · by_cases c2 : cut < N
    · rw [if_pos c1, if_pos c2]
      obtain ⟨fn, tmps, assign, body, hy, hR⟩ := hY [] (0, cut, low) W h0 (by simp)
      unfold sgV at hy
      refine callsIn_of_wp Tryd.func92 rfl h6 ?_ hro
      simp only [Tryd.ntmps92, List.size_toArray, List.length_cons, List.length_nil, Nat.reduceAdd, Nat.reduceSub, Array.replicate_succ, Array.replicate_zero, List.push_toArray, List.append_toArray, List.nil_append, List.cons_append]
      gi_wp2
      refine hR.mono ?_
      rintro e W3 (⟨rfl, hJ3, hk3⟩ | ⟨rfl, hJx3⟩)
      · have k13 := (hk3.cell (p := ⟨b1, 0, none⟩) l1).trans k1
        have k33 := (hk3.cell (p := ⟨b3, 0, none⟩) l3).trans k3
        have k43 := (hk3.cell (p := ⟨b4, 0, none⟩) l4).trans k4
        obtain ⟨fn2, tmps2, assign2, body2, hy2, hR2⟩ := hY _ (cut, N - cut, high) W3 hJ3 (by simp)
        unfold sgV at hy2
        gi_wp2
        refine hR2.mono ?_
        rintro e W4 (⟨rfl, hJ4, hk4⟩ | ⟨rfl, hJx4⟩)
        · gi_wp2
          go_end0
          exact ⟨⟨_, rfl⟩, .inl ⟨_, rfl, hJ4⟩⟩
        · gi_wp2
          go_end0
          exact ⟨⟨_, rfl⟩, .inr ⟨_, trivial, hJx4⟩⟩
      · gi_wp2
        refine bodyPost_ret (results_none rfl _ _ _) rfl ?_
        exact ⟨⟨_, rfl⟩, .inr ⟨_, trivial, hJx3⟩⟩
    · rw [if_pos c1, if_neg c2]
      obtain ⟨fn, tmps, assign, body, hy, hR⟩ := hY [] (0, cut, low) W h0 (by simp)
      unfold sgV at hy
      refine callsIn_of_wp Tryd.func92 rfl h6 ?_ hro
      simp only [Tryd.ntmps92, List.size_toArray, List.length_cons, List.length_nil, Nat.reduceAdd, Nat.reduceSub, Array.replicate_succ, Array.replicate_zero, List.push_toArray, List.append_toArray, List.nil_append, List.cons_append]
      gi_wp2
      refine hR.mono ?_
      rintro e W3 (⟨rfl, hJ3, hk3⟩ | ⟨rfl, hJx3⟩)
      · have k13 := (hk3.cell (p := ⟨b1, 0, none⟩) l1).trans k1
        have k33 := (hk3.cell (p := ⟨b3, 0, none⟩) l3).trans k3
        gi_wp2
        go_end0
        exact ⟨⟨_, rfl⟩, .inl ⟨_, rfl, hJ3⟩⟩
      · gi_wp2
        refine bodyPost_ret (results_none rfl _ _ _) rfl ?_
        exact ⟨⟨_, rfl⟩, .inr ⟨_, trivial, hJx3⟩⟩
  · obtain rfl : cut = 0 := by omega
    clear c1
    by_cases c2 : 0 < N
    · rw [if_neg (by omega), if_pos c2, Int.sub_zero]
      obtain ⟨fn, tmps, assign, body, hy, hR⟩ := hY [] (0, N, high) W h0 (by simp)
      unfold sgV at hy
      refine callsIn_of_wp Tryd.func92 rfl h6 ?_ hro
      simp only [Tryd.ntmps92, List.size_toArray, List.length_cons, List.length_nil, Nat.reduceAdd, Nat.reduceSub, Array.replicate_succ, Array.replicate_zero, List.push_toArray, List.append_toArray, List.nil_append, List.cons_append]
      gi_wp2
      refine ⟨fun _ h => (by cases h), ?_⟩
      gi_wp2
      refine hR.mono ?_
      rintro e W3 (⟨rfl, hJ3, hk3⟩ | ⟨rfl, hJx3⟩)
      · gi_wp2
        go_end0
        exact ⟨⟨_, rfl⟩, .inl ⟨_, rfl, hJ3⟩⟩
      · gi_wp2
        go_end0
        exact ⟨⟨_, rfl⟩, .inr ⟨_, trivial, hJx3⟩⟩
    · obtain rfl : N = 0 := by omega
      rw [if_neg (by omega)]
      refine callsIn_of_wp Tryd.func92 rfl h6 ?_ hro
      simp only [Tryd.ntmps92, List.size_toArray, List.length_cons, List.length_nil, Nat.reduceAdd, Nat.reduceSub, Array.replicate_succ, Array.replicate_zero, List.push_toArray, List.append_toArray, List.nil_append, List.cons_append]
      gi_wp2
      refine ⟨fun _ h => (by cases h), ?_⟩
      gi_wp2
      go_end0
      exact ⟨⟨_, rfl⟩, .inl (by simpa using h0)⟩

/-- the iterator's contract -/
theorem iter_stops (F : Fence) (n : Nat) (h6 : F.fn 92) (hro : F.round = none) (hn : 1 ≤ n) (n₀ b1 b2 b3 b4 : Nat) (cut low N high : Int) (l1 : b1 < n₀) (l2 : b2 < n₀) (l3 : b3 < n₀) (l4 : b4 < n₀) (hcut : 0 ≤ cut) (hN : 0 ≤ N) (hc64 : cut < 18446744073709551616) (hN64 : N < 18446744073709551616)
    (w : World) (hn₀ : n₀ ≤ w.heap.size) (k1 : w.cell? ⟨b1, 0, none⟩ = some (.int .u64 cut)) (k2 : w.cell? ⟨b2, 0, none⟩ = some (.int .u64 low)) (k3 : w.cell? ⟨b3, 0, none⟩ = some (.int .u64 N)) (k4 : w.cell? ⟨b4, 0, none⟩ = some (.int .u64 high)) :
    SeqStopsK F n Tryd.prog 92 #[.pointer (some ⟨b1, 0, none⟩), .pointer (some ⟨b2, 0, none⟩), .pointer (some ⟨b3, 0, none⟩), .pointer (some ⟨b4, 0, none⟩)] (fun x : Sg => #[sgV x]) (Below n₀) (fun ys => ys = segsOf cut low N high) (fun _ => True) 2 w := fun l J Jx W hW _ _ hY h0 =>
  iter_in F n h6 hro hn l n₀ b1 b2 b3 b4 cut low N high l1 l3 l4 hcut hN hc64 hN64 J Jx hY W ((hW.cell (p := ⟨b1, 0, none⟩) (by show b1 < _; omega)).trans k1) ((hW.cell (p := ⟨b2, 0, none⟩) (by show b2 < _; omega)).trans k2) ((hW.cell (p := ⟨b3, 0, none⟩) (by show b3 < _; omega)).trans k3) ((hW.cell (p := ⟨b4, 0, none⟩) (by show b4 < _; omega)).trans k4) h0

end Go.Proofs.YtfchbodbkdkcfaaDoor.Coll
