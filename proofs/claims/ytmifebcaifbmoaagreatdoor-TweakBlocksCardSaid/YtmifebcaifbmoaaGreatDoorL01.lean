/- Parts of the proof of TweakBlocks. Sched: AES' key schedule on bytes. No Go here. Rj1: rijndael: the product of bytes, the turn of a byte. Step: Steps of a walk, one law each: q_* in a region that draws its order and only reads (over a class of worlds), t_* and w_* in one that writes, p_* in a plain one. General lemmas. New: Operations of plain regions by hand: a new variable; arrays loaded, stored, and their elements. General. -/
import Derived.Test.YtmifebcaifbmoaaGreatDoorL00
import Derived.Test.YtmifebcaifbmoaaGreatDoorRows
import Derived.Test.YtmifebcaifbmoaaGreatDoorChecked
import Derived.Deep.Cut
import Derived.Deep.CutRange
import Derived.Deep.QuietTactic
import Derived.BigQuiet
import Derived.LoopTactic
import Derived.Laws.AppendOwnNone
import Derived.Laws.OwnMore
import Derived.Maps.AppendAt
import Derived.ArgAppend
import Derived.WalkSmall
import Derived.WalkSpells
import Derived.Lib.SmallJoins
import Derived.Deep.Slices
import Derived.ChangeSlices
import Derived.ChangeMaps5
import Derived.StillTail
import Derived.OrdersHeld
import Derived.Deep.RegionHeld3
import Derived.Great.BuildSlice
import Derived.Laws.StructEq
/- Sched -/
section
namespace Go.Proofs.YtmifebcaifbmoaaGreatDoor.Aes
open Go

def rcL : List Nat := [1, 2, 4, 8, 16, 32, 64, 128, 27, 54]
def rc (i : Nat) : Nat := rcL.getD i 0
theorem rc_lt : ∀ i, rc i < 256 := fun i => by
  match i with
  | 0 | 1 | 2 | 3 | 4 | 5 | 6 | 7 | 8 | 9 => decide
  | n + 10 => simp [rc, rcL]
/-- what is added to the word nk places before word i, of the word before it -/
def tB (nk i : Nat) (prev : Nat → Nat) (j : Nat) : Nat := if i % nk = 0 then S (prev ((j + 1) % 4)) ^^^ (if j = 0 then rc (i / nk - 1) else 0) else if nk = 8 ∧ i % 8 = 4 then S (prev j) else prev j
/-- the words' bytes behind n rounds of the schedule's loop -/
def kwF (nk : Nat) (key : Nat → Nat) : Nat → Nat → Nat → Nat
  | 0 => fun i j => key (4 * i + j)
  | n + 1 => fun i j => if i = nk + n then kwF nk key n n j ^^^ tB nk (nk + n) (kwF nk key n (nk + n - 1)) j else kwF nk key n i j
/-- byte j of word i of the schedule -/
def kw (nk : Nat) (key : Nat → Nat) (i j : Nat) : Nat := kwF nk key (3 * nk + 28) i j
/-- byte i of round key r -/
def rk (nk : Nat) (key : Nat → Nat) (r i : Nat) : Nat := kw nk key (4 * r + i / 4) (i % 4)
theorem tB_lt {nk i : Nat} {prev : Nat → Nat} (h : Byt prev 4) (j : Nat) (hj : j < 4) : tB nk i prev j < 256 := by
  unfold tB
  split
  · refine xor_lt (S_lt _ (h _ (Nat.mod_lt _ (by decide)))) ?_
    split
    · exact rc_lt _
    · decide
  · split
    · exact S_lt _ (h _ hj)
    · exact h _ hj
theorem kwF_lt {nk : Nat} {key : Nat → Nat} (hk : Byt key (4 * nk)) (h1 : 1 ≤ nk) : ∀ n i, i < nk + n → Byt (kwF nk key n i) 4
  | 0, i, hi, j, hj => hk _ (by omega)
  | n + 1, i, hi, j, hj => by
    rw [kwF]
    dsimp only
    split
    · exact xor_lt (kwF_lt hk h1 n n (by omega) j hj) (tB_lt (kwF_lt hk h1 n _ (by omega)) j hj)
    · exact kwF_lt hk h1 n i (by omega) j hj
theorem kwF_keep {nk : Nat} {key : Nat → Nat} {n : Nat} : ∀ d i, i < nk + n → kwF nk key (n + d) i = kwF nk key n i
  | 0, _, _ => rfl
  | d + 1, i, hi => by
    funext j
    rw [show n + (d + 1) = (n + d) + 1 by omega, kwF]
    dsimp only
    rw [if_neg (by omega), kwF_keep d i hi]
theorem kw_of {nk : Nat} {key : Nat → Nat} {n i : Nat} (hn : n ≤ 3 * nk + 28) (hi : i < nk + n) : kw nk key i = kwF nk key n i := by
  funext j
  unfold kw
  rw [show 3 * nk + 28 = n + (3 * nk + 28 - n) by omega, kwF_keep _ _ hi]
theorem kw_byt {nk : Nat} {key : Nat → Nat} (hk : Byt key (4 * nk)) (h1 : 1 ≤ nk) {i : Nat} (hi : i < 4 * (nk + 7)) : Byt (kw nk key i) 4 := kwF_lt hk h1 _ i (by omega)
theorem rk_byt {nk : Nat} {key : Nat → Nat} (hk : Byt key (4 * nk)) (h1 : 1 ≤ nk) : ∀ r, r ≤ nk + 6 → Byt (rk nk key r) 16 := fun r hr i hi => kw_byt hk h1 (by omega) _ (Nat.mod_lt _ (by decide))
end Go.Proofs.YtmifebcaifbmoaaGreatDoor.Aes
end

/- Rj1 -/
section
namespace Go.Proofs.YtmifebcaifbmoaaGreatDoor.Rj
open Go.RowKit Go.Lib Go.Proofs.YtmifebcaifbmoaaGreatDoor.Blk Go.Proofs.YtmifebcaifbmoaaGreatDoor.Aes

theorem and1_u8 (b : Nat) (h : b < 256) : bits .and .u8 (b : Int) 1 = ((b % 2 : Nat) : Int) := by
  have := and_u8 b 1 h (by decide)
  rw [show ((1 : Int)) = ((1 : Nat) : Int) from rfl, this]
  congr 1
  exact Nat.and_two_pow_sub_one_eq_mod b 1
theorem and128_nat : ∀ b, b < 256 → b &&& 128 = if 128 ≤ b then 128 else 0 := by decide +kernel
theorem and128_u8 (b : Nat) (h : b < 256) : bits .and .u8 (b : Int) 128 = ((if 128 ≤ b then 128 else 0 : Nat) : Int) := by
  have := and_u8 b 128 h (by decide)
  rw [show ((128 : Int)) = ((128 : Nat) : Int) from rfl, this, and128_nat b h]
theorem xt_hi (x : Nat) (h : 128 ≤ x) (_hx : x < 256) : bits .xor .u8 ((x : Int) * 2 % 256) 27 = ((xt x : Nat) : Int) := by
  have e : ((x : Int) * 2 % 256) = ((x * 2 % 256 : Nat) : Int) := by omega
  rw [e, show ((27 : Int)) = ((27 : Nat) : Int) from rfl, xor_u8 _ _ (Nat.mod_lt _ (by decide)) (by decide), xt, if_pos h]
theorem xt_lo (x : Nat) (h : ¬ 128 ≤ x) : ((x : Int) * 2) = ((xt x : Nat) : Int) := by
  rw [xt, if_neg h, Nat.xor_zero]
  omega
theorem half_i (y : Nat) : (y : Int) / 2 = ((y / 2 : Nat) : Int) := by omega
theorem gm_step {n x y p G : Nat} (h : gmL (n + 1) x y p = G) : (y % 2 = 1 → gmL n (xt x) (y / 2) (p ^^^ x) = G) ∧ (¬ y % 2 = 1 → gmL n (xt x) (y / 2) p = G) := by
  rw [gmL] at h
  exact ⟨fun e => by rw [if_pos e] at h; exact h, fun e => by rw [if_neg e] at h; exact h⟩
set_option maxHeartbeats 1000000 in
theorem times_any (a b : Nat) (ha : a < 256) (hb : b < 256) (w : World) : Calls Tryz.prog 170 #[.int .u8 a, .int .u8 b] w fun e w' => e = .returned (.int .u8 (gm a b : Nat)) ∧ w = w' := by
  obtain ⟨G, hG⟩ : ∃ G, gm a b = G := ⟨_, rfl⟩
  rw [hG]
  have HG := Lib.hid hG
  have HA := Lib.hid ha
  have HB := Lib.hid hb
  clear hG ha hb
  go_enter Tryz.func170, Tryz.ntmps170
  go_wp2
  go_loop [0, 1, 5, 6] (fun sa sb sp _ => ∃ n x y p : Nat, n ≤ 8 ∧ sa = .int .u8 x ∧ sb = .int .u8 y ∧ sp = .int .u8 p ∧ x < 256 ∧ y < 256 ∧ p < 256 ∧ y < 2 ^ n ∧ Hid (gmL n x y p = G)) (fun _ sb _ _ => (RowKit.intOf sb).toNat)
  case atStart => exact ⟨8, a, b, 0, by omega, rfl, rfl, rfl, HA.out, HB.out, by decide, HB.out, Lib.hid HG.out⟩
  case round =>
    obtain ⟨n, x, y, p, hn, rfl, rfl, rfl, hx, hy, hp, hyn, HR⟩ := hrel
    by_cases h0 : y = 0
    · subst h0
      have hr := HR.out
      rw [gmL_zero] at hr
      subst hr
      go_wp2
      go_ret
      exact ⟨rfl, rfl⟩
    · have e1 := and1_u8 y hy
      have e2 := xor_u8 p x hp hx
      have e3 := and128_u8 x hx
      have hyb : ((y : Int) != 0) = true := by simp; omega
      obtain ⟨m, rfl⟩ : ∃ m, n = m + 1 := ⟨n - 1, by
        rcases n with _ | n
        · simp at hyn; omega
        · omega⟩
      have hy2 : y / 2 < 2 ^ m := by rw [Nat.pow_succ] at hyn; omega
      have ST := Lib.hid (gm_step HR.out)
      have XH := Lib.hid (fun h => xt_hi x h hx)
      have XL := Lib.hid (xt_lo x)
      clear HR hyn HG
      by_cases h1 : y % 2 = 1 <;> by_cases h2 : 128 ≤ x
      · rw [h1] at e1
        rw [if_pos h2] at e3
        go_wp2
        go_round
        case rel => exact ⟨m, xt x, y / 2, p ^^^ x, by omega, by rw [XH.out h2], by rw [half_i], rfl, xt_lt x, by omega, xor_lt hp hx, hy2, Lib.hid (ST.out.1 h1)⟩
        case measure => simp [RowKit.intOf]; omega
      · rw [h1] at e1
        rw [if_neg h2] at e3
        go_wp2
        go_round
        case rel => exact ⟨m, xt x, y / 2, p ^^^ x, by omega, by rw [XL.out h2], by rw [half_i], rfl, xt_lt x, by omega, xor_lt hp hx, hy2, Lib.hid (ST.out.1 h1)⟩
        case measure => simp [RowKit.intOf]; omega
      · have h1' : y % 2 = 0 := by omega
        rw [h1'] at e1
        rw [if_pos h2] at e3
        go_wp2
        go_round
        case rel => exact ⟨m, xt x, y / 2, p, by omega, by rw [XH.out h2], by rw [half_i], rfl, xt_lt x, by omega, hp, hy2, Lib.hid (ST.out.2 h1)⟩
        case measure => simp [RowKit.intOf]; omega
      · have h1' : y % 2 = 0 := by omega
        rw [h1'] at e1
        rw [if_neg h2] at e3
        go_wp2
        go_round
        case rel => exact ⟨m, xt x, y / 2, p, by omega, by rw [XL.out h2], by rw [half_i], rfl, xt_lt x, by omega, hp, hy2, Lib.hid (ST.out.2 h1)⟩
        case measure => simp [RowKit.intOf]; omega

theorem trn_eq (b n : Nat) (hb : b < 256) : bits .or .u8 ((b : Int) * 2 ^ n % 256) ((b : Int) / 2 ^ (8 - n)) = ((trn b n : Nat) : Int) := by
  have e1 : ((b : Int) * 2 ^ n % 256) = ((b * 2 ^ n % 256 : Nat) : Int) := by simp
  have e2 : ((b : Int) / 2 ^ (8 - n)) = ((b / 2 ^ (8 - n) : Nat) : Int) := by simp
  rw [e1, e2, or_u8 _ _ (Nat.mod_lt _ (by decide)) (Nat.lt_of_le_of_lt (Nat.div_le_self _ _) hb), trn]
theorem turn_any (b n : Nat) (hb : b < 256) (h1 : 1 ≤ n) (h2 : n ≤ 7) (w : World) : Calls Tryz.prog 171 #[.int .u8 b, .int .u64 n] w fun e w' => e = .returned (.int .u8 (trn b n : Nat)) ∧ w = w' := by
  go_enter Tryz.func171, Tryz.ntmps171
  go_wp2
  go_ret
  exact ⟨congrArg (fun z => Ending.returned (.int .u8 z)) (trn_eq b n hb), rfl⟩
end Go.Proofs.YtmifebcaifbmoaaGreatDoor.Rj
end

/- Step -/
section
namespace Go.Proofs.YtmifebcaifbmoaaGreatDoor.Step
open Go.RowKit Go.Lib Go.Proofs.YtmifebcaifbmoaaGreatDoor.Blk

/-! one operation of a quiet walk -/
section
variable {P : Program} {ops : Array Oper} {C : World → Prop} {Q : Act → Prop} {o : Oper} {rest : List Oper} {a : Act}
theorem q_val (hg : Region.wanted o (yielded ops a.tmps) = true) (v : Value) (hy : ∀ w, C w → o.quietAt P a C w v) (h : wpQuiet P ops C Q rest (a.put o.dst v)) : wpQuiet P ops C Q (o :: rest) a := by
  unfold wpQuiet
  rw [if_pos hg]
  exact ⟨v, hy, h⟩
theorem q_pure (hg : Region.wanted o (yielded ops a.tmps) = true) (v : Value) (hy : ∀ w, (execOp a.eval o).run P w = .ok (.value v) w) (h : wpQuiet P ops C Q rest (a.put o.dst v)) : wpQuiet P ops C Q (o :: rest) a :=
  q_val hg v (fun w _ => by unfold Oper.quietAt; rw [hy]; exact ⟨rfl, rfl⟩) h
theorem q_move (hg : Region.wanted o (yielded ops a.tmps) = true) (x : Operand) (ho : o.op = .move x) (v : Value) (hv : a.eval x = v) (h : wpQuiet P ops C Q rest (a.put o.dst v)) : wpQuiet P ops C Q (o :: rest) a :=
  q_pure hg v (fun w => by unfold execOp; rw [ho]; simp [hv]) h
theorem q_pick (hg : Region.wanted o (yielded ops a.tmps) = true) (c x y : Operand) (ho : o.op = .pick c x y) (b : Bool) (hc : a.eval c = .bool b) (v : Value) (hv : (if b then a.eval x else a.eval y) = v) (h : wpQuiet P ops C Q rest (a.put o.dst v)) : wpQuiet P ops C Q (o :: rest) a :=
  q_pure hg v (fun w => by unfold execOp; rw [ho]; simp only [hc]; cases b <;> simp_all [asBool]) h
theorem q_skip (hg : Region.wanted o (yielded ops a.tmps) = false) (h : wpQuiet P ops C Q rest (a.put o.dst undef)) : wpQuiet P ops C Q (o :: rest) a :=
  BigFrame.wpQuiet_skip hg h
theorem q_assign (hg : Region.wanted o (yielded ops a.tmps) = true) (x : Operand) (ho : o.op = .assign x) (v : Value) (hv : a.eval x = v) (h : wpQuiet P ops C Q rest (a.put o.dst v)) : wpQuiet P ops C Q (o :: rest) a :=
  q_pure hg v (fun w => by unfold execOp; rw [ho]; simp [hv]) h
/-- a region that draws its order, its operations a list -/
theorem wp_region_class {id : Nat} {Q : Exit → Act → World → Prop} {a : Act} {w : World} {l : List Oper} (hm : P.follows .mixedOrders = true) (hB : Region.lexB .any l.toArray = true) (hC : C w.drew)
    (h : wpQuiet P l.toArray C (fun a' => ∀ w', C w' → Q .normal a' w') l a) : (Code.region id l.toArray true).wp P Q a w :=
  wp_region_quiet (C := C) hm hB hC (by simpa using h)
/-- a call of a function of the program -/
theorem q_call (hg : Region.wanted o (yielded ops a.tmps) = true) (f : FuncId) (args : List Operand) (ts : Array TypeId) (ho : o.op = .call { callee := .value (.func f), args := args.toArray, argTypes := ts })
    {fn : Func} (hf : P.funcs[f]? = some fn) (hn : (fn.name == "runtime.NumGoroutine") = false) (hb : fn.body.isNone = false) (v : Value) (vs : List Value) (hvs : args.map a.eval = vs)
    (hc : ∀ w, C w → Calls P f vs.toArray w fun e w' => e = .returned v ∧ C w') (h : wpQuiet P ops C Q rest (a.put o.dst v)) : wpQuiet P ops C Q (o :: rest) a :=
  q_val hg v (fun w hw => by
    unfold Oper.quietAt execOp
    rw [ho]
    simp only [resolve, Act.eval, Deferred.ofValue, Sem.run_bind, Sem.run_pure, Result.andThen_ok, invoke, Array.append_empty, Array.empty_append, callFunc, run_program, hf, hn, hb, Bool.false_eq_true, if_false]
    rw [List.map_toArray, show (args.map a.eval) = vs from hvs]
    exact ⟨rfl, hc w hw⟩) h
end
section
variable {P : Program} {ops : Array Oper} {Q : Exit → Act → World → Prop} {S : World → Prop} {a : Act} {w : World} {fuel : Nat} {listed : Array Bool}

/-- the beginning -/
theorem begin_ {id : Nat} {l : List Oper} (n : Nat) (hn : l.length = n) (hm : P.follows .mixedOrders = true) (hS : S w.drew)
    (h : S w.drew → wpAnyH P .any l.toArray (NoPanic Q) S n (Array.replicate n false) a w.drew) : (Code.region id l.toArray true).wp P Q a w := by
  subst hn
  refine wp_region_noPanic (wp_region_held (S := S) hm ?_)
  have := h hS
  simpa using this

theorem drop_get {l tl : List Oper} {i : Nat} {o : Oper} (h : l.drop i = o :: tl) : l.toArray[i]? = some o := by
  have := congrArg (fun x => x[0]?) h
  simpa using this
section
variable {i : Nat} {o : Oper} {tl l : List Oper} (hi : l.drop i = o :: tl) (hg : Region.wanted o (yielded l.toArray a.tmps) = true) (hs : Region.noSelect l.toArray = true) (hf : Region.free .any l.toArray listed i = true) (hr : (Region.ready .any l.toArray listed).contains i = true) (hS : S w)
include hi hg hs hf hr hS
/-- a value that is the same in every such world -/
theorem t_val (v : Value) (hv : ∀ w, S w → (execOp a.eval o).run P w = .ok (.value v) w)
    (h : wpAnyH P .any l.toArray (NoPanic Q) S fuel (listed.setIfInBounds i true) (a.put o.dst v) w) : wpAnyH P .any l.toArray (NoPanic Q) S (fuel + 1) listed a w :=
  wpAnyH_take (drop_get hi) hs hf hr (fun _ _ _ h => h) (.inl ⟨hg, hv⟩) hS h
theorem t_move (x : Operand) (ho : o.op = .move x) (v : Value) (hv : a.eval x = v)
    (h : wpAnyH P .any l.toArray (NoPanic Q) S fuel (listed.setIfInBounds i true) (a.put o.dst v) w) : wpAnyH P .any l.toArray (NoPanic Q) S (fuel + 1) listed a w :=
  t_val hi hg hs hf hr hS v (fun w _ => by unfold execOp; rw [ho]; simp [hv]) h
theorem t_assign (x : Operand) (ho : o.op = .assign x) (v : Value) (hv : a.eval x = v)
    (h : wpAnyH P .any l.toArray (NoPanic Q) S fuel (listed.setIfInBounds i true) (a.put o.dst v) w) : wpAnyH P .any l.toArray (NoPanic Q) S (fuel + 1) listed a w :=
  t_val hi hg hs hf hr hS v (fun w _ => by unfold execOp; rw [ho]; simp [hv]) h
theorem t_load (ty : TypeId) (x : Operand) (ho : o.op = .load ty x) (b : Nat) (hx : a.eval x = .pointer (some ⟨b, 0, none⟩))
    {k : IntKind} {n : Nat} {t : TypeId} {f : Nat → Int} {d : TypeDesc} (hA : ∀ w, S w → Arr w b k n t f) (hu : P.underlying ty = some d) (hd : (match d with | .struct _ | .array _ _ => true | _ => false) = true)
    (hi' : (P.info? ty).map (·.size) = some n)
    (h : wpAnyH P .any l.toArray (NoPanic Q) S fuel (listed.setIfInBounds i true) (a.put o.dst (.agg (arr k n f))) w) : wpAnyH P .any l.toArray (NoPanic Q) S (fuel + 1) listed a w :=
  t_val hi hg hs hf hr hS _ (fun w hw => by
    unfold execOp
    simp only [ho, hx, Instr.loadAt, Instr.sureAddr, Sem.run_bind, Sem.run_pure, Result.andThen_ok, run_loadVar_row w b t ty _ _ d (hA w hw) hu hd (by rw [arr_size]; exact hi')]) h
theorem t_load_mid (ty : TypeId) (x : Operand) (ho : o.op = .load ty x) (b off : Nat) (hx : a.eval x = .pointer (some ⟨b, off, none⟩))
    {k : IntKind} {n : Nat} {f : Nat → Int} {d : TypeDesc} (hA : ∀ w, S w → w.rangeAt b off (arr k n f).toList) (hu : P.underlying ty = some d) (hd : d.isRow = true)
    (hi' : (P.info? ty).map (·.size) = some n)
    (h : wpAnyH P .any l.toArray (NoPanic Q) S fuel (listed.setIfInBounds i true) (a.put o.dst (.agg (arr k n f))) w) : wpAnyH P .any l.toArray (NoPanic Q) S (fuel + 1) listed a w :=
  wpAnyH_take (drop_get hi) hs hf hr (fun _ _ _ h => h) (by
    have := yieldsIf_load_mid (P := P) (ops := l.toArray) (S := S) hg ty x ho b off hx (arr k n f).toList d hA hu hd (by rw [Array.length_toList, arr_size]; exact hi')
    simpa using this) hS h
/-- an element's address -/
theorem t_index (t e : TypeId) (x ix : Operand) (ho : o.op = .indexAddr t x ix) (b off : Nat) (len cap : Nat) (hx : a.eval x = .slice (some ⟨b, off, none⟩) len cap) (j : Nat) (hj : a.eval ix = .int .i64 j) (hlt : j < len) (size : Nat)
    (hu : P.underlying t = some (.slice e)) (hi' : (P.info? e).map (·.size) = some size)
    (h : wpAnyH P .any l.toArray (NoPanic Q) S fuel (listed.setIfInBounds i true) (a.put o.dst (.pointer (some ⟨b, off + j * size, none⟩))) w) : wpAnyH P .any l.toArray (NoPanic Q) S (fuel + 1) listed a w :=
  t_val hi hg hs hf hr hS _ (fun w _ => by
    unfold execOp
    cases hie : P.info? e with
    | none => simp [hie] at hi'
    | some ie =>
      simp only [hie, Option.map_some, Option.some.injEq] at hi'
      subst hi'
      have h1 : (0 : Int) ≤ j ∧ (j : Int) < len := by omega
      simp [ho, hx, hj, Instr.indexAt, asIntOf, run_underlying hu, sizeOf, typeInfo, hie, h1, hlt, Addr.add_mid]) h
end

/-- the one operation that may come up -/
theorem t_one {i : Nat} {o : Oper} {tl l : List Oper} (hi : l.drop i = o :: tl) (hg : Region.wanted o (yielded l.toArray a.tmps) = true) (hr : Region.ready .any l.toArray listed = [i])
    (h : o.wp P a w (fun a' w' => S w' ∧ wpAnyH P .any l.toArray (NoPanic Q) S fuel (listed.setIfInBounds i true) a' w') (NoPanic Q)) : wpAnyH P .any l.toArray (NoPanic Q) S (fuel + 1) listed a w :=
  wpAnyH_all hr (by simp) fun j hj => by
    obtain rfl : j = i := by simpa using hj
    unfold wpOp
    simp only [drop_get hi]
    rw [if_pos hg]
    exact .inl h
/-- one of two operations comes up -/
theorem t_two {i j : Nat} {o o2 : Oper} {tl tl2 l : List Oper} (hi : l.drop i = o :: tl) (hj : l.drop j = o2 :: tl2) (hg : Region.wanted o (yielded l.toArray a.tmps) = true) (hg2 : Region.wanted o2 (yielded l.toArray a.tmps) = true) (hr : Region.ready .any l.toArray listed = [i, j])
    (h : o.wp P a w (fun a' w' => S w' ∧ wpAnyH P .any l.toArray (NoPanic Q) S fuel (listed.setIfInBounds i true) a' w') (NoPanic Q))
    (h2 : o2.wp P a w (fun a' w' => S w' ∧ wpAnyH P .any l.toArray (NoPanic Q) S fuel (listed.setIfInBounds j true) a' w') (NoPanic Q)) : wpAnyH P .any l.toArray (NoPanic Q) S (fuel + 1) listed a w :=
  wpAnyH_all hr (by simp) fun k hk => by
    rcases List.mem_cons.1 hk with rfl | hk
    · unfold wpOp
      simp only [drop_get hi]
      rw [if_pos hg]
      exact .inl h
    · obtain rfl : k = j := by simpa using hk
      unfold wpOp
      simp only [drop_get hj]
      rw [if_pos hg2]
      exact .inl h2
theorem t_end (hr : Region.ready .any ops listed = []) (h : Q .normal a w) : wpAnyH P .any ops (NoPanic Q) S fuel listed a w := wpAnyH_done (Q := NoPanic Q) hr (NoPanic.normal h) fuel
end

section
variable {P : Program} {o : Oper} {a : Act} {w : World} {K : Act → World → Prop} {Q : Exit → Act → World → Prop}
/-- a call whose value is told by what holds behind it -/
theorem w_callx (f : FuncId) (args : List Operand) (ts : Array TypeId) (ho : o.op = .call { callee := .value (.func f), args := args.toArray, argTypes := ts })
    {fn : Func} (hf : P.funcs[f]? = some fn) (hn : (fn.name == "runtime.NumGoroutine") = false) (hb : fn.body.isNone = false) (vs : List Value) (hvs : args.map a.eval = vs) {R : Ending → World → Prop}
    (hc : Calls P f vs.toArray w R) (h : ∀ e w', R e w' → ∃ v, e = .returned v ∧ K (a.put o.dst v) w') : o.wp P a w K Q := by
  unfold Oper.wp execOp
  rw [ho]
  simp only [resolve, Act.eval, Deferred.ofValue, Sem.run_bind, Sem.run_pure, Result.andThen_ok, invoke, Array.append_empty, Array.empty_append, callFunc, run_program, hf, hn, hb, Bool.false_eq_true, if_false]
  rw [List.map_toArray, show (args.map a.eval) = vs from hvs]
  exact hc.mono fun e w' hr => by
    obtain ⟨v, rfl, hk⟩ := h e w' hr
    exact hk
/-- a value, and a world -/
theorem w_run (v : Value) (w' : World) (hr : (execOp a.eval o).run P w = .ok (.value v) w') (h : K (a.put o.dst v) w') : o.wp P a w K Q := by
  unfold Oper.wp; rw [hr]; exact h
/-- append onto a list of the call's own -/
theorem w_append (s x : Operand) (t : TypeId)
    (ho : o.op = .call { callee := .builtin .append, args := #[s, x], argTypes := #[t, t] })
    (base : Nat) (e : TypeId) (i : TypeInfo) (z : Value) (size bytes : Nat) (ht : P.underlying t = some (.slice e)) (hi : P.info? e = some i) (hz : i.zero = some z)
    (hsize : i.size = size) (hby : i.bytes = bytes) (hzs : z.cells.size = size) (hsz : 0 < size)
    (v : Value) (n : Nat) (xs : List Value) (hs : a.eval s = v) (hown : w.ownsRow base e size v n xs)
    (ad : Addr) (m c : Nat) (news : List Value) (hx : a.eval x = .slice (some ad) m c) (hl : news.length = m * size) (hnews : ∀ j u, news[j]? = some u → w.cell? (ad.add j) = some u) (h1 : ∀ u ∈ news, u.oneCell' = true)
    (h63 : n + m ≤ maxLen) (hbytes : (n + m) * bytes ≤ 140737488355328) (hbase : base ≤ w.heap.size)
    (h : ∀ v' w', w'.ownsRow base e size v' (n + m) (xs ++ news) → w.grownBy w' v.ownBlock → (v' = .slice none 0 0 ↔ v = .slice none 0 0 ∧ m = 0) → (v'.ownBlock = v.ownBlock ∨ v'.ownBlock = some w.heap.size) → K (a.put o.dst v') w') :
    o.wp P a w K Q := by
  obtain ⟨v', w', hr, h2, h3, h4, h5⟩ := run_append_own_at (P := P) w base t o.type e i z size bytes ht hi hz hsize hby hzs hsz v n xs hown ad m c news hl hnews h1 h63 hbytes hbase
  unfold Oper.wp execOp
  simp only [ho, resolve, invoke, builtin, Sem.run_bind, Sem.run_pure, Result.andThen_ok, List.map_toArray, List.map_cons, List.map_nil, hs, hx, hr]
  exact h v' w' h2 h3 h4 h5
end
section
variable {P : Program} {ops : Array Oper} {Q : Exit → Act → World → Prop} {a : Act} {w : World} {o : Oper} {rest : List Oper} (hg : Region.wanted o (yielded ops a.tmps) = true)
include hg
theorem p_wp (h : o.wp P a w (fun a' w' => wpList P ops Q rest a' w') Q) : wpList P ops Q (o :: rest) a w := by
  unfold wpList
  rw [if_pos hg]
  exact .inl h
omit hg in
theorem p_skip (hg : Region.wanted o (yielded ops a.tmps) = false) (h : wpList P ops Q rest (a.put o.dst undef) w) : wpList P ops Q (o :: rest) a w := by
  unfold wpList
  rw [if_neg (by rw [hg]; exact Bool.false_ne_true)]
  exact h
theorem p_val (v : Value) (hv : (execOp a.eval o).run P w = .ok (.value v) w) (h : wpList P ops Q rest (a.put o.dst v) w) : wpList P ops Q (o :: rest) a w :=
  p_wp hg (by unfold Oper.wp; rw [hv]; exact h)
theorem p_move (x : Operand) (ho : o.op = .move x) (v : Value) (hv : a.eval x = v) (h : wpList P ops Q rest (a.put o.dst v) w) : wpList P ops Q (o :: rest) a w :=
  p_val hg v (by unfold execOp; rw [ho]; simp [hv]) h
theorem p_assign (x : Operand) (ho : o.op = .assign x) (v : Value) (hv : a.eval x = v) (h : wpList P ops Q rest (a.put o.dst v) w) : wpList P ops Q (o :: rest) a w :=
  p_val hg v (by unfold execOp; rw [ho]; simp [hv]) h
theorem p_load (ty : TypeId) (x : Operand) (ho : o.op = .load ty x) (b : Nat) (hx : a.eval x = .pointer (some ⟨b, 0, none⟩))
    {k : IntKind} {n : Nat} {t : TypeId} {f : Nat → Int} {d : TypeDesc} (hA : Arr w b k n t f) (hu : P.underlying ty = some d) (hd : (match d with | .struct _ | .array _ _ => true | _ => false) = true)
    (hi' : (P.info? ty).map (·.size) = some n) (h : wpList P ops Q rest (a.put o.dst (.agg (arr k n f))) w) : wpList P ops Q (o :: rest) a w :=
  p_val hg _ (by
    unfold execOp
    simp only [ho, hx, Instr.loadAt, Instr.sureAddr, Sem.run_bind, Sem.run_pure, Result.andThen_ok, run_loadVar_row w b t ty _ _ d hA hu hd (by rw [arr_size]; exact hi')]) h
theorem p_load_mid (ty : TypeId) (x : Operand) (ho : o.op = .load ty x) (b off : Nat) (hx : a.eval x = .pointer (some ⟨b, off, none⟩))
    {k : IntKind} {n : Nat} {f : Nat → Int} {d : TypeDesc} (hA : w.rangeAt b off (arr k n f).toList) (hu : P.underlying ty = some d) (hd : d.isRow = true)
    (hi' : (P.info? ty).map (·.size) = some n) (h : wpList P ops Q rest (a.put o.dst (.agg (arr k n f))) w) : wpList P ops Q (o :: rest) a w :=
  p_wp hg (wp_load_mid ty x ho b off hx (arr k n f).toList d hA hu hd (by rw [Array.length_toList, arr_size]; exact hi') (by simpa using h))
theorem p_pick (c x y : Operand) (ho : o.op = .pick c x y) (b : Bool) (hc : a.eval c = .bool b) (v : Value) (hv : (if b then a.eval x else a.eval y) = v) (h : wpList P ops Q rest (a.put o.dst v) w) : wpList P ops Q (o :: rest) a w :=
  p_val hg v (by unfold execOp; rw [ho]; simp only [hc]; cases b <;> simp_all [asBool]) h
omit hg in
/-- a block is written over a block -/
theorem p_store (ty : TypeId) (x y : Operand) (ho : o.op = .store ty x y) (b : Nat) {k : IntKind} {n : Nat} {f : Nat → Int} (hx : a.eval x = .pointer (some ⟨b, 0, none⟩)) (hy : a.eval y = .agg (arr k n f))
    {t : TypeId} {g : Nat → Int} (hA : Arr w b k n t g) (hi : (P.info? ty).map (·.size) = some n) (hgd : o.guard = none)
    (h : ∀ w', Arr w' b k n t f → w.grownBy w' (some b) → w'.heap.size = w.heap.size → wpList P ops Q rest (a.put o.dst undef) w') : wpList P ops Q (o :: rest) a w :=
  wpList_store_arr hgd ty x y ho b hx hy hA hi h
theorem p_len (x : Operand) (t e : TypeId) (ho : o.op = .call { callee := .builtin .len, args := #[x], argTypes := #[t] }) (q : Option Addr) (n c : Nat) (hx : a.eval x = .slice q n c) (hu : P.underlying t = some (.slice e))
    (h : wpList P ops Q rest (a.put o.dst (.int .i64 n)) w) : wpList P ops Q (o :: rest) a w :=
  p_val hg _ (by
    unfold execOp
    simp [ho, hx, resolve, invoke, builtin, Builtin.len_, run_underlying hu, goInt]) h
theorem p_index (t e : TypeId) (x ix : Operand) (ho : o.op = .indexAddr t x ix) (b off : Nat) (len cap : Nat) (hx : a.eval x = .slice (some ⟨b, off, none⟩) len cap) (j : Nat) (hj : a.eval ix = .int .i64 j) (hlt : j < len) (size : Nat)
    (hu : P.underlying t = some (.slice e)) (hi' : (P.info? e).map (·.size) = some size)
    (h : wpList P ops Q rest (a.put o.dst (.pointer (some ⟨b, off + j * size, none⟩))) w) : wpList P ops Q (o :: rest) a w :=
  p_val hg _ (by
    unfold execOp
    cases hie : P.info? e with
    | none => simp [hie] at hi'
    | some ie =>
      simp only [hie, Option.map_some, Option.some.injEq] at hi'
      subst hi'
      have h1 : (0 : Int) ≤ j ∧ (j : Int) < len := by omega
      simp [ho, hx, hj, Instr.indexAt, asIntOf, run_underlying hu, sizeOf, typeInfo, hie, h1, hlt, Addr.add_mid]) h
end
/-- a row of the call's own, where its block did not change -/
theorem own_of {w w' : World} {base : Nat} {e : TypeId} {size : Nat} {v : Value} {n : Nat} {xs : List Value} (h : w.ownsRow base e size v n xs) (hb : ∀ g, v.ownBlock = some g → w'.heap[g]? = w.heap[g]?) : w'.ownsRow base e size v n xs := by
  refine ⟨h.1, ?_⟩
  rcases h.2 with h | ⟨g, cap, cur, rfl, h1, h2, h3⟩
  · exact .inl h
  · exact .inr ⟨g, cap, cur, rfl, h1, by rw [hb g rfl]; exact h2, h3⟩
/-! structs and single cells -/
/-- a type of one cell: no struct, no array -/
def oneD (d : TypeDesc) : Bool := match d with | .struct _ | .array _ _ => false | _ => true
section
variable {P : Program} {w : World}
theorem run_field0 (s : TypeId) (b o f : Nat) {fs : Array Field} {fd : Field} {sz : Nat} (hu : P.underlying s = some (.struct fs)) (hf : fs[f]? = some fd) (hi : (P.info? fd.type).map (·.size) = some sz) (hs : sz ≠ 0) :
    (Instr.fieldAt s (.pointer (some ⟨b, o, none⟩)) f).run P w = .ok (.pointer (some ⟨b, o + fd.offset, none⟩)) w := by
  cases hie : P.info? fd.type with
  | none => simp [hie] at hi
  | some ie =>
    simp only [hie, Option.map_some, Option.some.injEq] at hi
    have e : (sizeOf fd.type).run P w = .ok sz w := by simp [sizeOf, typeInfo, hie, hi]
    simp [go_sem, run_underlying hu, hf, e, hs, Addr.add_mid]
theorem run_load1 (ty : TypeId) (b o : Nat) {d : TypeDesc} {v : Value} (hu : P.underlying ty = some d) (hd : oneD d = true) (hc : w.cell? ⟨b, o, none⟩ = some v) :
    (loadVar ty ⟨b, o, none⟩).run P w = .ok v w := by
  have e : (isAgg ty).run P w = .ok false w := by
    unfold isAgg
    simp only [Sem.run_bind, run_underlying hu, Result.andThen_ok]
    cases d <;> simp_all [oneD]
  simp [loadVar, Sem.run_bind, e, go_sem, hc]
end
section
variable {P : Program} {ops : Array Oper} {C : World → Prop} {Q : Act → Prop} {o : Oper} {rest : List Oper} {a : Act}
theorem q_field (hg : Region.wanted o (yielded ops a.tmps) = true) (s : TypeId) (x : Operand) (f : Nat) (ho : o.op = .fieldAddr s x f) (b off : Nat) (hx : a.eval x = .pointer (some ⟨b, off, none⟩))
    {fs : Array Field} {fd : Field} {sz : Nat} (hu : P.underlying s = some (.struct fs)) (hf : fs[f]? = some fd) (hi : (P.info? fd.type).map (·.size) = some sz) (hs : sz ≠ 0) (off2 : Nat) (ho2 : off + fd.offset = off2)
    (h : wpQuiet P ops C Q rest (a.put o.dst (.pointer (some ⟨b, off2, none⟩)))) : wpQuiet P ops C Q (o :: rest) a :=
  q_pure hg _ (fun w => by
    subst ho2
    unfold execOp; rw [ho]
    simp only [hx, Sem.run_bind, run_field0 s b off f hu hf hi hs, Result.andThen_ok, Sem.run_pure]) h
theorem q_load1 (hg : Region.wanted o (yielded ops a.tmps) = true) (ty : TypeId) (x : Operand) (ho : o.op = .load ty x) (b off : Nat) (hx : a.eval x = .pointer (some ⟨b, off, none⟩))
    {d : TypeDesc} (v : Value) (hA : ∀ w, C w → w.cell? ⟨b, off, none⟩ = some v) (hu : P.underlying ty = some d) (hd : oneD d = true)
    (h : wpQuiet P ops C Q rest (a.put o.dst v)) : wpQuiet P ops C Q (o :: rest) a :=
  q_val hg _ (fun w hw => by
    unfold Oper.quietAt execOp
    simp only [ho, hx, Instr.loadAt, Instr.sureAddr, Sem.run_bind, Sem.run_pure, Result.andThen_ok, run_load1 ty b off hu hd (hA w hw)]
    exact ⟨rfl, rfl⟩) h
theorem q_idx (hg : Region.wanted o (yielded ops a.tmps) = true) (t e : TypeId) (x ix : Operand) (ho : o.op = .indexAddr t x ix) (b off : Nat) (len cap : Nat) (hx : a.eval x = .slice (some ⟨b, off, none⟩) len cap) (j : Nat) (hj : a.eval ix = .int .i64 j) (hlt : j < len) (size : Nat)
    (hu : P.underlying t = some (.slice e)) (hi' : (P.info? e).map (·.size) = some size)
    (h : wpQuiet P ops C Q rest (a.put o.dst (.pointer (some ⟨b, off + j * size, none⟩)))) : wpQuiet P ops C Q (o :: rest) a :=
  q_pure hg _ (fun w => by
    unfold execOp
    cases hie : P.info? e with
    | none => simp [hie] at hi'
    | some ie =>
      simp only [hie, Option.map_some, Option.some.injEq] at hi'
      subst hi'
      have h1 : (0 : Int) ≤ j ∧ (j : Int) < len := by omega
      simp [ho, hx, hj, Instr.indexAt, asIntOf, run_underlying hu, sizeOf, typeInfo, hie, h1, hlt, Addr.add_mid]) h
end
end Go.Proofs.YtmifebcaifbmoaaGreatDoor.Step
end

/- New -/
section
namespace Go.Proofs.YtmifebcaifbmoaaGreatDoor.New
open Go.RowKit Go.Lib Go.Proofs.YtmifebcaifbmoaaGreatDoor.Blk
section
variable {P : Program} {ops : Array Oper} {Q : Exit → Act → World → Prop} {a : Act} {w : World} {o : Oper} {rest : List Oper}
/-- a new variable -/
theorem p_new (hg : Region.wanted o (yielded ops a.tmps) = true) (ty : TypeId) (ho : o.op = .alloc ty) {z : Value} (hz : (P.info? ty).bind (·.zero) = some z) (h : wpList P ops Q rest (a.put o.dst (.pointer (some ⟨w.heap.size, 0, none⟩))) (w.alloc (.cells z.cells ty))) : wpList P ops Q (o :: rest) a w := by
  cases hie : P.info? ty with
  | none => simp [hie] at hz
  | some ie =>
    simp only [hie, Option.bind_some] at hz
    refine Step.p_wp hg (Step.w_run _ _ (by
      unfold execOp
      have h0 : (zeroValue ty).run P w = .ok z w := by simp [zeroValue, typeInfo, hie, hz]
      simp [ho, Instr.alloc, newVar, newRow, go_sem, h0]) h)
/-- a new array of numbers, all zero -/
theorem p_newarr (hg : Region.wanted o (yielded ops a.tmps) = true) (ty : TypeId) (ho : o.op = .alloc ty) (k : IntKind) (n : Nat) (hz : (P.info? ty).bind (·.zero) = some (.agg (arr k n fun _ => 0)))
    (h : ∀ w', Arr w' w.heap.size k n ty (fun _ => 0) → w.grownBy w' none → w'.heap.size = w.heap.size + 1 → wpList P ops Q rest (a.put o.dst (.pointer (some ⟨w.heap.size, 0, none⟩))) w') : wpList P ops Q (o :: rest) a w :=
  p_new hg ty ho hz (h _ (Arr.new w k n ty _) (World.grownBy_alloc w _ none) (by simp))
/-- a value is boxed -/
theorem p_box (hg : Region.wanted o (yielded ops a.tmps) = true) (ty : TypeId) (x : Operand) (ho : o.op = .box ty x) (k : IntKind) (n : Nat) (f : Nat → Int) (hx : a.eval x = .agg (arr k n f))
    (h : ∀ w', Arr w' w.heap.size k n ty f → w.grownBy w' none → w'.heap.size = w.heap.size + 1 → wpList P ops Q rest (a.put o.dst (.pointer (some ⟨w.heap.size, 0, none⟩))) w') : wpList P ops Q (o :: rest) a w := by
  refine Step.p_wp hg (Step.w_run (.pointer (some ⟨w.heap.size, 0, none⟩)) (w.alloc (.cells (arr k n f) ty)) (by
    unfold execOp
    rw [ho]
    simp only [hx]
    simp [Instr.box, newRow, go_sem, Value.cells]) (h _ (Arr.new w k n ty _) (World.grownBy_alloc w _ none) (by simp)))
/-- an element of an array by value -/
theorem run_index_arr {t e : TypeId} {n : Nat} {k : IntKind} (h : P.underlying t = some (.array n e)) (he : P.underlying e = some (.int k)) (hsz : (P.info? e).map (·.size) = some 1) (f : Nat → Int) (i : Nat) (hi : i < n) (w : World) :
    (Instr.index t (.agg (arr k n f)) (.int .i64 i)).run P w = .ok (.int k (f i)) w := by
  cases hie : P.info? e with
  | none => simp [hie] at hsz
  | some ie =>
    simp only [hie, Option.map_some, Option.some.injEq] at hsz
    have hs : (sizeOf e).run P w = .ok 1 w := by simp [sizeOf, typeInfo, hie, hsz]
    have hb : (0 : Int) ≤ i ∧ (i : Int) < n := by omega
    have hg : (isAgg e).run P w = .ok false w := by simp [isAgg, go_sem, run_underlying he]
    have hc := arr_get k n f i hi
    have hni : ¬ n ≤ i := by omega
    simp [Instr.index, run_underlying h, asIntOf, hs, go_sem, part, hg, hc, hi]
end
end Go.Proofs.YtmifebcaifbmoaaGreatDoor.New
end
