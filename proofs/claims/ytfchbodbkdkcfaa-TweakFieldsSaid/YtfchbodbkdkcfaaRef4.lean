/- product of the document's own functions. -/
import Derived.Test.YtfchbodbkdkcfaaRef3
import Derived.Test.YtfchbodbkdkcfaaAlg
namespace Go.Proofs.Ytfchbodbkdkcfaa.Ref
open Go.RowKit Go.Lib
open Go.Proofs.Ytfchbodbkdkcfaa.Blk Go.Proofs.Ytfchbodbkdkcfaa.Poly Go.Proofs.Ytfchbodbkdkcfaa.Field Go.Proofs.Ytfchbodbkdkcfaa.Ints Go.Proofs.Ytfchbodbkdkcfaa.Alg

/-- the product of two polynomials -/
def clm (A B : Nat) : Nat := xs 128 fun i => if A.testBit i then (B % 2 ^ 128) * 2 ^ i else 0
def clk (A B k : Nat) : Nat := xs k fun i => if A.testBit i then (B % 2 ^ 128) * 2 ^ i else 0
theorem mul_xor (x y i : Nat) : (x ^^^ y) * 2 ^ i = x * 2 ^ i ^^^ y * 2 ^ i := by
  have := Nat.shiftLeft_xor_distrib (a := x) (b := y) (i := i)
  simpa [Nat.shiftLeft_eq] using this
theorem mod_step (B i k : Nat) : (B % 2 ^ (k + 1)) * 2 ^ i = (B % 2 ^ k) * 2 ^ i ^^^ (if B.testBit k then 2 ^ (i + k) else 0) := by
  rw [mod_bit, mul_xor]
  congr 1
  split
  · rw [← Nat.pow_add, Nat.add_comm]
  · simp
theorem flip_bit (D p : Nat) (c : Bool) (q : Nat) : (D ^^^ (if c then 2 ^ p else 0)).testBit q = (if q = p then (D.testBit q != c) else D.testBit q) := by
  rw [Nat.testBit_xor]
  by_cases e : q = p
  · subst e
    rw [if_pos rfl]
    cases c <;> simp
  · rw [if_neg e]
    have : ¬ p = q := fun h => e h.symm
    cases c <;> simp [this]
theorem make255 (w : World) : (Instr.makeSlice 68 (.int .i64 255) (.int .i64 255)).run Try.prog w = .ok (.slice (some ⟨w.heap.size, 0, none⟩) 255 255) (w.alloc (.cells (arr .i64 255 fun _ => 0) 3)) := by kernel_rfl
theorem p_run {P : Program} {ops : Array Oper} {Q : Exit → Act → World → Prop} {a : Act} {w : World} {o : Oper} {rest : List Oper} (hg : Region.wanted o (yielded ops a.tmps) = true) (v : Value) (w' : World)
    (hr : (execOp a.eval o).run P w = .ok (.value v) w') (h : wpList P ops Q rest (a.put o.dst v) w') : wpList P ops Q (o :: rest) a w :=
  Held.p_wp hg (by unfold Oper.wp; rw [hr]; exact h)

structure PR (C : Nat) (g : Nat) (w wr : World) : Prop where
  c : Arr wr g .i64 255 3 (bitI C)
  bel : Below g w wr

set_option maxRecDepth 100000 in
set_option maxHeartbeats 2000000 in
theorem product_any (A B : Nat) (ga oa ca ma : Nat) (Fa : Nat → Int) (gb ob cb mb : Nat) (Fb : Nat → Int) (w : World) (hA : LI w 3 ga oa 128 ca ma Fa (bitI A)) (hB : LI w 3 gb ob 128 cb mb Fb (bitI B)) :
    Calls Try.prog 36 #[.slice (some ⟨ga, oa, none⟩) 128 ca, .slice (some ⟨gb, ob, none⟩) 128 cb] w fun e w' =>
    e = .returned (.slice (some ⟨w.heap.size, 0, none⟩) 255 255) ∧ Arr w' w.heap.size .i64 255 3 (bitI (clm A B)) ∧ Below w.heap.size w w' := by
  have HA := Lib.hid hA
  have HB := Lib.hid hB
  have LA := Lib.hid hA.arr.lt
  have LB := Lib.hid hB.arr.lt
  clear hA hB
  have S0 : Hid (PR (clk A B 0) w.heap.size w (w.alloc (.cells (arr .i64 255 fun _ => 0) 3))) := Lib.hid ⟨(Arr.new w .i64 255 _ _).congr (fun i _ => by simp [bitI, clk, xs]), (Below.refl _ _).alloc (Nat.le_refl _) _⟩
  go_enter Try.func36, Try.ntmps36
  go_upto_region 1 with fail
  refine wp_region_lit ?_
  refine p_run rfl (.slice (some ⟨w.heap.size, 0, none⟩) 255 255) (w.alloc (.cells (arr .i64 255 fun _ => 0) 3)) (by
    unfold execOp
    simp only [Act.eval, Sem.run_bind, make255, Result.andThen_ok, Sem.run_pure]) ?_
  simp only [Act.put, List.setIfInBounds_toArray, List.set_cons_zero, List.set_cons_succ]
  go_wp2
  go_loopw [6] (fun i wr => ∃ k : Nat, k ≤ 128 ∧ i = .int .i64 k ∧ PR (clk A B k) w.heap.size w wr) (fun i _ => 128 - (intOf i).toNat)
  case atStart => exact ⟨0, by omega, rfl, S0.out⟩
  case round =>
    obtain ⟨i, hi, rfl, hr⟩ := hrel
    have HR := Lib.hid hr
    clear hr
    by_cases hlt : i < 128
    · have cl := (HA.out.below HR.out.bel LA.out).cell hlt
      have CK : Hid (clk A B (i + 1) = clk A B i ^^^ (if A.testBit i then (B % 2 ^ 128) * 2 ^ i else 0)) := Lib.hid rfl
      unfold bitI at cl
      cases hb : A.testBit i
      · rw [hb] at cl CK
        simp only [Bool.false_eq_true, if_false] at cl
        go_wp2
        go_roundw
        case rel => exact ⟨i + 1, by omega, by go_num, by have := CK.out; simp only [Bool.false_eq_true, if_false, Nat.xor_zero] at this; rw [this]; exact HR.out⟩
        case measure => simp [intOf]; omega
      · rw [hb] at cl CK
        simp only [if_true] at cl
        clear hb
        go_wp2
        go_loopw [7] (fun k wr => ∃ j : Nat, j ≤ 128 ∧ k = .int .i64 j ∧ PR (clk A B i ^^^ (B % 2 ^ j) * 2 ^ i) w.heap.size w wr) (fun k _ => 128 - (intOf k).toNat)
        case atStart => exact ⟨0, by omega, rfl, by rw [Nat.pow_zero, Nat.mod_one, Nat.zero_mul, Nat.xor_zero]; exact HR.out⟩
        case round =>
          obtain ⟨j, hj, rfl, hr2⟩ := hrel
          have HR2 := Lib.hid hr2
          clear hr2
          by_cases hlt2 : j < 128
          · have c1 := HR2.out.c.cell (i := i + j) (by omega)
            have f1 := HR2.out.c.free (i + j)
            have c2 := (HB.out.below HR2.out.bel LB.out).cell hlt2
            have MS := Lib.hid (mod_step B i j)
            have FB := Lib.hid (flip_bit (clk A B i ^^^ (B % 2 ^ j) * 2 ^ i) (i + j) (B.testBit j))
            generalize hdd : clk A B i ^^^ (B % 2 ^ j) * 2 ^ i = D at c1 FB HR2
            have HDD := Lib.hid hdd
            clear hdd
            unfold bitI at c1 c2
            cases hd : D.testBit (i + j) <;> cases hbb : B.testBit j
            all_goals
              rw [hd] at c1
              rw [hbb] at c2 FB MS
              simp only [Bool.false_eq_true, if_false, if_true] at c1 c2
              have HD := Lib.hid hd
              clear hd hbb
              go_wp2
              go_region
              go_wp2
              go_roundw
              case rel =>
                refine ⟨j + 1, by omega, by go_num, ⟨?_, (HR2.out.bel.setCell (p := ⟨w.heap.size, i + j, none⟩) (Nat.le_refl _) _).drew⟩⟩
                rw [MS.out, ← Nat.xor_assoc, HDD.out]
                refine ((HR2.out.c.store (i + j) _).drew).congr fun q hq => ?_
                unfold upd bitI
                rw [FB.out q]
                by_cases e : q = i + j
                · subst e; rw [if_pos rfl, if_pos rfl, HD.out]; rfl
                · rw [if_neg e, if_neg e]
              case measure => simp [intOf]; omega
          · obtain rfl : j = 128 := by omega
            go_wp2
            go_roundw
            case rel => exact ⟨i + 1, by omega, by go_num, by have := CK.out; simp only [if_true] at this; rw [this]; exact HR2.out⟩
            case measure => simp [intOf]; omega
    · obtain rfl : i = 128 := by omega
      go_wp2
      go_ret
      exact ⟨rfl, HR.out.c, HR.out.bel⟩
end Go.Proofs.Ytfchbodbkdkcfaa.Ref
