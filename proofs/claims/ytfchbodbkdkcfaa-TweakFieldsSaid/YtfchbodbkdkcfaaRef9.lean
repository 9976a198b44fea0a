/- Polyval of the document's own functions. -/
import Derived.Test.YtfchbodbkdkcfaaRef8
namespace Go.Proofs.Ytfchbodbkdkcfaa.Ref
open Go.RowKit Go.Lib
open Go.Proofs.Ytfchbodbkdkcfaa.Blk Go.Proofs.Ytfchbodbkdkcfaa.Poly Go.Proofs.Ytfchbodbkdkcfaa.Field Go.Proofs.Ytfchbodbkdkcfaa.Ints Go.Proofs.Ytfchbodbkdkcfaa.Alg Go.Proofs.Ytfchbodbkdkcfaa.Polyval Go.Proofs.Ytfchbodbkdkcfaa.Lists

section
variable {P : Program} {ops : Array Oper} {C : World → Prop} {Q : Act → Prop} {o : Oper} {rest : List Oper} {a : Act}
theorem q_index (hg : Region.wanted o (yielded ops a.tmps) = true) (t e : TypeId) (x ix : Operand) (ho : o.op = .indexAddr t x ix) (b off : Nat) (len cap : Nat) (hx : a.eval x = .slice (some ⟨b, off, none⟩) len cap) (j : Nat) (hj : a.eval ix = .int .i64 j) (hlt : j < len) (size : Nat)
    (hu : P.underlying t = some (.slice e)) (hi' : (P.info? e).map (·.size) = some size)
    (h : wpQuiet P ops C Q rest (a.put o.dst (.pointer (some ⟨b, off + j * size, none⟩)))) : wpQuiet P ops C Q (o :: rest) a :=
  Eqs.q_pure hg _ (fun w => by
    unfold execOp
    cases hie : P.info? e with
    | none => simp [hie] at hi'
    | some ie =>
      simp only [hie, Option.map_some, Option.some.injEq] at hi'
      subst hi'
      have h1 : (0 : Int) ≤ j ∧ (j : Int) < len := by omega
      simp [ho, hx, hj, Instr.indexAt, asIntOf, run_underlying hu, sizeOf, typeInfo, hie, h1, hlt, Addr.add_mid]) h
theorem q_load_mid (hg : Region.wanted o (yielded ops a.tmps) = true) (ty : TypeId) (x : Operand) (ho : o.op = .load ty x) (b off : Nat) (hx : a.eval x = .pointer (some ⟨b, off, none⟩))
    {k : IntKind} {n : Nat} {f : Nat → Int} {d : TypeDesc} (hA : ∀ w, C w → w.rangeAt b off (arr k n f).toList) (hu : P.underlying ty = some d) (hd : d.isRow = true)
    (hi' : (P.info? ty).map (·.size) = some n) (h : wpQuiet P ops C Q rest (a.put o.dst (.agg (arr k n f)))) : wpQuiet P ops C Q (o :: rest) a :=
  Eqs.q_val hg _ (fun w hw => by
    unfold Oper.quietAt execOp
    simp only [ho, hx, Instr.loadAt, Instr.sureAddr, Sem.run_bind, Sem.run_pure, Result.andThen_ok, run_loadVar_mid w b off ty _ d (hA w hw) hu hd (by rw [Array.length_toList, arr_size]; exact hi')]
    exact ⟨rfl, by simp⟩) h
theorem q_len (hg : Region.wanted o (yielded ops a.tmps) = true) (x : Operand) (t e : TypeId) (ho : o.op = .call { callee := .builtin .len, args := #[x], argTypes := #[t] }) (q : Option Addr) (n c : Nat) (hx : a.eval x = .slice q n c) (hu : P.underlying t = some (.slice e))
    (h : wpQuiet P ops C Q rest (a.put o.dst (.int .i64 n))) : wpQuiet P ops C Q (o :: rest) a :=
  Eqs.q_pure hg _ (fun w => by
    unfold execOp
    simp [ho, hx, resolve, invoke, builtin, Builtin.len_, run_underlying hu, goInt]) h
end

theorem pol_start (h : Nat) (w : World) : PolRel h 0 w.heap.size w (((w.alloc (.cells (arr .u8 16 fun i => (byt h i : Int)) 48)).alloc (.cells (arr .u8 16 fun _ => 0) 48)).alloc (.cells (arr .u8 16 fun _ => 0) 48)) := by
  have H0 := three_of (fun i => (byt h i : Int)) (fun _ => 0) w
  exact ⟨H0.a, H0.b, H0.c.congr (fun i _ => by simp [byt]), H0.bel⟩

set_option maxRecDepth 100000 in
set_option maxHeartbeats 2000000 in
theorem rpolyval_sl (h : Nat) (hh : h < 2 ^ 128) (ns : List Nat) (p : Option Addr) (cap : Nat) (w : World) (hns : ∀ n ∈ ns, n < 2 ^ 128) (hsl : SL w p ns) (hlen : ns.length < 1000000) :
    Calls Try.prog 25 #[B16 h, .slice p ns.length cap] w fun e w' => e = .returned (B16 (polyN h ns)) ∧ Below w.heap.size w w' := by
  have H0 := Lib.hid (pol_start h w)
  rw [zero16] at H0
  have HH := Lib.hid hh
  have HS := Lib.hid hsl
  have HP := Lib.hid (polyN_snoc h ns)
  have HL : Hid (∀ k, polyN h (ns.take k) < 2 ^ 128) := Lib.hid fun k => polyN_lt h _ 0 (by decide) (fun n hn => hns n (List.mem_of_mem_take hn))
  have HE : Hid (polyN h (ns.take ns.length) = polyN h ns) := Lib.hid (by rw [List.take_length])
  have HG : Hid (∀ k, k < ns.length → ns.getD k 0 < 2 ^ 128) := Lib.hid fun k hk => hns _ (by simp [List.getD_eq_getElem?_getD, List.getElem?_eq_getElem hk])
  clear hh hsl hns
  go_enter Try.func25, Try.ntmps25
  go_wp2
  go_loopw [6] (fun i wr => ∃ k : Nat, k ≤ ns.length ∧ i = .int .i64 k ∧ PolRel h (polyN h (ns.take k)) w.heap.size w wr ∧ w.heap.size + 3 ≤ wr.heap.size) (fun i _ => ns.length - (intOf i).toNat)
  case atStart => exact ⟨0, by omega, rfl, H0.out, by simp⟩
  case round =>
    obtain ⟨k, hk, rfl, hr, hz⟩ := hrel
    have HR := Lib.hid hr
    have HZ := Lib.hid hz
    clear hr hz
    by_cases hlt : k < ns.length
    · rcases HS.out with ⟨rfl, h0⟩ | ⟨bl, off, rfl, hbl, hblk⟩
      · rw [h0] at hlt; exact absurd hlt (by simp)
      have PS := Lib.hid (HP.out k hlt)
      have NK := Lib.hid (HG.out k hlt)
      have SK := Lib.hid (HL.out k)
      have RB : Hid (bl < w.heap.size ∧ w.rangeAt bl (off + k * 16) (arr .u8 16 fun j => (byt (ns.getD k 0) j : Int)).toList) := Lib.hid ⟨hbl, hblk k hlt⟩
      clear hbl hblk
      generalize ns.getD k 0 = nk at PS NK RB
      generalize polyN h (ns.take k) = s at HR PS SK
      have RW : Hid (∀ w', Below wr.heap.size wr w' → w'.rangeAt bl (off + k * 16) (arr .u8 16 fun j => (byt nk j : Int)).toList) := Lib.hid fun w' hw' j v hv => by
        rw [hw'.cell (p := ⟨bl, off + k * 16 + j, none⟩) (by have := RB.out.1; have := HZ.out; show bl < _; omega), HR.out.bel.cell (p := ⟨bl, off + k * 16 + j, none⟩) RB.out.1]
        exact RB.out.2 j v hv
      have LE : Hid (wr.heap.size ≤ wr.heap.size) := Lib.hid (Nat.le_refl _)
      go_upto_region 5 with fail
      refine Reg.wp_region_tail (C := fun w' => Below wr.heap.size wr w') (by kernel_rfl) (by kernel_rfl) (Below.refl _ _).drew ?_
      simp only [Reg.idleLast, Reg.lastOf, Reg.idle]
      refine Eqs.q_load rfl 48 _ rfl _ rfl (fun _ hs => HR.out.c.below hs HR.out.c.lt) Try.underlying48 rfl info16 ?_
      simp only [Act.put, List.setIfInBounds_toArray, List.set_cons_zero, List.set_cons_succ]
      refine Eqs.q_move rfl _ rfl (.slice (some ⟨bl, off, none⟩) ns.length cap) rfl ?_
      simp only [Act.put, List.setIfInBounds_toArray, List.set_cons_zero, List.set_cons_succ]
      refine Eqs.q_move rfl _ rfl (.int .i64 k) rfl ?_
      simp only [Act.put, List.setIfInBounds_toArray, List.set_cons_zero, List.set_cons_succ]
      refine q_index rfl _ _ _ _ rfl bl off ns.length cap rfl k rfl hlt 16 Try.underlying49 info16 ?_
      simp only [Act.put, List.setIfInBounds_toArray, List.set_cons_zero, List.set_cons_succ]
      refine q_load_mid rfl _ _ rfl bl _ rfl RW.out Try.underlying48 rfl info16 ?_
      simp only [Act.put, List.setIfInBounds_toArray, List.set_cons_zero, List.set_cons_succ]
      refine Eqs.q_call rfl 38 _ _ rfl Try.func38 (by kernel_rfl) rfl _ [B16 s, B16 nk] rfl (fun w' hw' => (rplus_num s nk w').mono fun e w2 ⟨he, hb⟩ => ⟨he, hw'.trans (hb.mono (Nat.le_trans LE.out hw'.size))⟩) ?_
      simp only [Act.put, List.setIfInBounds_toArray, List.set_cons_zero, List.set_cons_succ]
      refine Eqs.q_load rfl 48 _ rfl _ rfl (fun _ hs => HR.out.a.below hs HR.out.a.lt) Try.underlying48 rfl info16 ?_
      simp only [Act.put, List.setIfInBounds_toArray, List.set_cons_zero, List.set_cons_succ]
      refine Eqs.q_call rfl 24 _ _ rfl Try.func24 (by kernel_rfl) rfl _ [B16 (s ^^^ nk), B16 h] rfl (fun w' hw' => (rdot_any (s ^^^ nk) h (Nat.xor_lt_two_pow SK.out NK.out) HH.out w').mono fun e w2 ⟨he, hb⟩ => ⟨he, hw'.trans (hb.mono (Nat.le_trans LE.out hw'.size))⟩) ?_
      simp only [Act.put, List.setIfInBounds_toArray, List.set_cons_zero, List.set_cons_succ]
      refine Reg.wpQuiet_idle rfl rfl rfl ?_
      intro w3 hs3
      have C3 := Lib.hid (HR.out.c.below hs3 HR.out.c.lt)
      refine Held.p_store _ _ _ rfl (w.heap.size + 1 + 1) rfl (f := fun i => (byt (dotN (s ^^^ nk) h 128) i : Int)) rfl C3.out info16 rfl ?_
      intro w4 hA4 hG4 hS4
      simp only [Act.put]
      refine Held.p_nil ?_
      have hw4 : PolRel h (dotN (s ^^^ nk) h 128) w.heap.size w w4 := ⟨(HR.out.a.below hs3 HR.out.a.lt).grown hG4 (by omega), (HR.out.b.below hs3 HR.out.b.lt).grown hG4 (by omega), hA4, (HR.out.bel.trans (hs3.mono (by have := HZ.out; omega))).trans (Held.gb_below hG4 (by have := HZ.out; have := hs3.size; omega) (by intro q hq; cases hq; omega))⟩
      have H4 := Lib.hid hw4
      have Z4 : Hid (w.heap.size + 3 ≤ w4.heap.size) := Lib.hid (by rw [hS4]; exact Nat.le_trans HZ.out hs3.size)
      clear hA4 hG4 hS4 hw4 hs3
      go_wp2_with fail
      go_roundw
      case rel => exact ⟨k + 1, by omega, by go_num, by rw [PS.out]; exact H4.out, Z4.out⟩
      case measure => simp [intOf]; omega
    · obtain rfl : k = ns.length := by omega
      go_wp2_with (first | (refine wpList_load_arr rfl 48 _ rfl _ rfl HR.out.c Try.underlying48 rfl info16 ?_) | (refine wpList_store_arr rfl 48 _ _ rfl _ rfl rfl HR.out.b info16 ?_; intro w4 hA hG hS))
      exact ret_arr rfl rfl hA Try.underlying48 rfl info16 rfl ⟨by rw [HE.out], HR.out.bel.grown hG HR.out.bel.size (by intro j hj; cases hj; omega)⟩
end Go.Proofs.Ytfchbodbkdkcfaa.Ref
