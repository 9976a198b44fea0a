/- Parts of the proof of TweakBlocks. Byts: Lists of bytes: the contracts of cofferbook.Bytes, SameBytes, WholeBytes. Cell: A whole row stored; a row returned out of its cell. General. Push: One byte appended onto an own list of bytes; the list returned. Code: tweak: a block by a scheduled key; a key scheduled. Callv: A function's value called. General. -/
import Derived.Test.YtmifebcaifbmoaaGreatDoorChecked
import Derived.Test.YtmifebcaifbmoaaGreatDoorL00
import Derived.Deep.Cut
import Derived.Deep.CutRange
import Derived.Deep.QuietTactic
import Derived.BigQuiet
import Derived.LoopTactic
import Derived.Laws.AppendOwnNone
import Derived.Laws.OwnMore
import Derived.Maps.AppendAt
import Derived.ArgAppend
import Derived.WalkSmall
import Derived.WalkSpells
import Derived.Lib.SmallJoins
import Derived.Deep.Slices
import Derived.ChangeSlices
import Derived.ChangeMaps5
import Derived.Test.YtmifebcaifbmoaaGreatDoorL03
import Derived.Test.YtmifebcaifbmoaaGreatDoorL01
import Derived.Laws.ResultCell
import Derived.Test.YtmifebcaifbmoaaGreatDoorL09
import Derived.Test.YtmifebcaifbmoaaGreatDoorL11
/- Byts -/
section
namespace Go.Proofs.YtmifebcaifbmoaaGreatDoor.Byts
open Go.RowKit Go.Lib Go.Proofs.YtmifebcaifbmoaaGreatDoor.Blk

/-- a slice of n numbers f -/
def BL (w : World) (q : Option Addr) (n : Nat) (f : Nat → Nat) : Prop := ∀ i, i < n → ∃ g off, q = some ⟨g, off, none⟩ ∧ w.cell? ⟨g, off + i, none⟩ = some (.int .u8 (f i : Nat))
theorem BL.below {w w' : World} {q : Option Addr} {n : Nat} {f : Nat → Nat} (h : BL w q n f) (hb : Below w.heap.size w w') : BL w' q n f := fun i hi => by
  obtain ⟨g, off, e, hc⟩ := h i hi
  refine ⟨g, off, e, ?_⟩
  have hlt : g < w.heap.size := by
    rcases Nat.lt_or_ge g w.heap.size with h' | h'
    · exact h'
    · simp [World.cell?, Array.getElem?_eq_none h'] at hc
  rw [← hc]
  exact hb.cell hlt

set_option maxHeartbeats 1000000 in
/-- two lists that are alike -/
theorem sameBytes_any (q q2 : Option Addr) (n cap cap2 : Nat) (f : Nat → Nat) (w : World) (hn : n ≤ maxLen) (h1 : BL w q n f) (h2 : BL w q2 n f) :
    Calls Tryz.prog 17 #[.slice q n cap, .slice q2 n cap2] w fun e w' => e = .returned (.bool true) ∧ Below w.heap.size w w' := by
  have hn' : n ≤ 9223372036854775807 := hn
  have H1 := Lib.hid h1
  have H2 := Lib.hid h2
  clear h1 h2
  go_enter Tryz.func17, Tryz.ntmps17
  go_wp2
  go_loopw [5] (fun i wr => ∃ k : Nat, k ≤ n ∧ i = .int .i64 k ∧ Below w.heap.size w wr) (fun i _ => n - (RowKit.intOf i).toNat)
  case atStart => exact ⟨0, by omega, rfl, Below.refl _ _⟩
  case round =>
    obtain ⟨k, hk, rfl, hb⟩ := hrel
    have HB := Lib.hid hb
    clear hb
    by_cases hlt : k < n
    · obtain ⟨g, off, rfl, hc⟩ := H1.out k hlt
      obtain ⟨g2, off2, rfl, hc2⟩ := H2.out k hlt
      have l1 := Frame.block_lt hc
      have l2 := Frame.block_lt hc2
      rw [← HB.out.cell l1] at hc
      rw [← HB.out.cell l2] at hc2
      go_wp2
      go_region
      go_wp2
      go_roundw
      case rel => exact ⟨k + 1, by omega, rfl, below_drewN HB.out _⟩
      case measure => simp [RowKit.intOf]; omega
    · go_wp2
      go_ret
      exact ⟨rfl, HB.out⟩

/-- what Ints lays: the list, and the marks behind it -/
def row (n : Nat) (f : Nat → Nat) (k : Nat) : List Value := ((List.range n).map fun i => Value.int .u8 (f i : Nat)) ++ (List.range k).map fun (j : Nat) => Value.int .u8 (181 + j)
theorem row_succ (n : Nat) (f : Nat → Nat) (k : Nat) : row n f k ++ [.int .u8 (181 + k)] = row n f (k + 1) := by
  simp [row, List.range_succ]
theorem row_get (n : Nat) (f : Nat → Nat) (k i : Nat) (h : i < n) : (row n f k)[i]? = some (.int .u8 (f i : Nat)) := by
  simp [row, List.getElem?_append, h]
theorem row_mark (n : Nat) (f : Nat → Nat) (k j : Nat) (h : j < k) : (row n f k)[n + j]? = some (.int .u8 (181 + j)) := by
  simp [row, h]

set_option maxRecDepth 100000 in
set_option maxHeartbeats 1000000 in
/-- a list's own copy, marks behind it -/
theorem bytes_any (q : Option Addr) (n cap : Nat) (f : Nat → Nat) (w : World) (hn : n ≤ 140737488347136) (hle : n ≤ cap) (hq : q = none → n = 0 ∧ cap = 0) (h1 : BL w q n f) :
    Calls Tryz.prog 13 #[.slice q n cap] w fun e w' => ∃ g c, e = .returned (.slice (some ⟨g, 0, none⟩) n c) ∧ w.heap.size ≤ g ∧ n + 70 ≤ c ∧ c ≤ maxLen ∧ (∀ j, j < n + 70 → w'.cell? ⟨g, j, none⟩ = (row n f 70)[j]?) ∧ Below w.heap.size w w' ∧ ∃ cur, w'.heap[g]? = some (.cells cur 5 (0, 0)) := by
  have H1 := Lib.hid h1
  clear h1
  obtain ⟨i0, hi, hz0, hz1, hz2⟩ : ∃ i, Tryz.prog.info? 5 = some i ∧ i.zero = some (.int .u8 0) ∧ i.size = 1 ∧ i.bytes = 1 := by
    have h : (Tryz.prog.info? 5).map (fun i => (i.size, i.bytes, i.zero)) = some (1, 1, some (.int .u8 0)) := by kernel_rfl
    cases hi : Tryz.prog.info? 5 with
    | none => simp [hi] at h
    | some I =>
      simp only [hi, Option.map_some, Option.some.injEq, Prod.mk.injEq] at h
      exact ⟨I, rfl, h.2.2, h.1, h.2.1⟩
  go_enter Tryz.func13, Tryz.ntmps13
  go_upto_region 2 with fail
  go_cut [3] from 6 to 8 (fun s wx => wx.ownsRow w.heap.size 5 1 s n (row n f 0) ∧ Below w.heap.size w wx)
  case first =>
    cases hqq : q with
    | none =>
      obtain ⟨rfl, rfl⟩ := hq hqq
      subst hqq
      go_wp2_with (first | (at_builtin; refine wpList_append_own_none rfl _ _ 22 rfl w.heap.size 5 i0 1 Tryz.underlying22 hi _ 0 [] rfl (World.ownsRow_nil _ _ _ _) rfl ?_) | fail)
      go_wp2_with fail
      go_meet
      case rel => exact ⟨World.ownsRow_nil _ _ _ _, Below.refl _ _⟩
    | some a =>
      subst hqq
      go_wp2_with (first | (at_builtin; refine wpList_append_own_at _ rfl _ _ 22 rfl w.heap.size 5 i0 (.int .u8 0) 1 1 Tryz.underlying22 hi hz0 hz1 hz2 rfl (by decide) _ 0 [] rfl (World.ownsRow_nil _ _ _ _) a n cap (row n f 0) rfl ?c1 ?c2 ?c3 ?c4 ?c5 (Nat.le_refl _) ?_) | fail)
      case c1 => simp [row]
      case c2 =>
        intro j u hj
        have hjn : j < n := by
          have := (List.getElem?_eq_some_iff.1 hj).1
          simpa [row] using this
        obtain ⟨g, off, e, hc⟩ := H1.out j hjn
        cases e
        rw [row_get _ _ _ _ hjn] at hj
        rw [Addr.add_mid, hc, hj]
      case c3 =>
        intro u hu
        simp only [row, List.range_zero, List.map_nil, List.append_nil, List.mem_map] at hu
        obtain ⟨_, _, rfl⟩ := hu
        rfl
      case c4 => unfold maxLen; omega
      case c5 => omega
      · intro v' w1 hown hgrow _ _
        try simp only [Nat.zero_add, List.nil_append] at hown
        have HO := Lib.hid hown
        have HB := Lib.hid ((Below.refl w.heap.size w).grown hgrow (Nat.le_refl _) (fun j hj => by cases hj))
        clear hown hgrow
        go_wp2_with fail
        go_meet
        case rel => exact ⟨HO.out, HB.out⟩
  obtain ⟨hown, hbel⟩ := hcut
  have HO := Lib.hid hown
  have HB := Lib.hid hbel
  clear hown hbel
  go_wp2
  go_loopw [4, 3] (fun i s wr => ∃ k : Nat, k ≤ 70 ∧ i = .int .i64 k ∧ wr.ownsRow w.heap.size 5 1 s (n + k) (row n f k) ∧ Below w.heap.size w wr) (fun i _ _ => 70 - (RowKit.intOf i).toNat)
  case atStart => exact ⟨0, by omega, rfl, HO.out, HB.out⟩
  case round =>
    obtain ⟨k, hk, rfl, hown, hbel⟩ := hrel
    have HO2 := Lib.hid hown
    have HB2 := Lib.hid hbel
    clear hown hbel HO HB
    by_cases hlt : k < 70
    · go_wp2_with (first | (at_builtin; refine wpList_append_own_at _ rfl _ _ 22 rfl w.heap.size 5 i0 (.int .u8 0) 1 1 Tryz.underlying22 hi hz0 hz1 hz2 rfl (by decide) _ (n + k) (row n f k) rfl (HO2.out.alloc _) ⟨wr.heap.size, 0, none⟩ 1 1 [.int .u8 (181 + k)] rfl rfl (cell_one_new _ _ _) ?c3 ?c4 ?c5 ?c6 ?_) | fail)
      case c3 => intro u hu; simp at hu; subst hu; rfl
      case c4 => unfold maxLen; omega
      case c5 => omega
      case c6 => have := HB2.out.size; simp; omega
      · intro v' w1 hown hgrow _ _
        rw [row_succ] at hown
        have HO3 := Lib.hid hown
        have HB3 := Lib.hid ((HB2.out.alloc HB2.out.size _).grown hgrow (by have := HB2.out.size; simp; omega) (fun j hj => (HO2.out.lt j hj).1))
        clear hown hgrow
        go_wp2_with fail
        go_roundw
        case rel => exact ⟨k + 1, by omega, rfl, HO3.out, HB3.out⟩
        case measure => simp [RowKit.intOf]; omega
    · obtain rfl : k = 70 := by omega
      rcases HO2.out.2 with ⟨_, h⟩ | ⟨g, c, cur, rfl, hg, hcur, hnc, hcm, _, _⟩
      · omega
      · have hcm' : c ≤ 9223372036854775807 := hcm
        go_wp2
        go_ret
        refine ⟨g, c, rfl, hg, hnc, hcm, fun j hj => HO2.out.cellAt j (by omega), HB2.out, cur, hcur⟩

set_option maxHeartbeats 1000000 in
/-- a list of Ints, whole -/
theorem wholeBytes_any (g c : Nat) (q : Option Addr) (n cap : Nat) (f : Nat → Nat) (w : World) (hn : n ≤ 140737488347136) (hc : n + 70 ≤ c) (hcm : c ≤ maxLen) (hr : ∀ j, j < n + 70 → w.cell? ⟨g, j, none⟩ = (row n f 70)[j]?) (h1 : BL w q n f) :
    Calls Tryz.prog 25 #[.slice (some ⟨g, 0, none⟩) n c, .slice q n cap] w fun e w' => e = .returned (.bool true) ∧ Below w.heap.size w w' := by
  have hcm' : c ≤ 9223372036854775807 := hcm
  have h0 : BL w (some ⟨g, 0, none⟩) n f := fun i hi => ⟨g, 0, rfl, by rw [Nat.zero_add, hr i (by omega), row_get _ _ _ _ hi]⟩
  have H0 := Lib.hid h0
  have H1 := Lib.hid h1
  have HR := Lib.hid hr
  have hg : g < w.heap.size := by
    have h := hr n (by omega)
    have h2 := row_mark n f 70 0 (by omega)
    rw [Nat.add_zero] at h2
    rw [h2] at h
    exact Frame.block_lt h
  clear h0 h1 hr
  go_enter Tryz.func25, Tryz.ntmps25
  go_wp2_with (go_at_call 17; refine (sameBytes_any _ _ n _ _ f w (by unfold maxLen; omega) H0.out H1.out).mono ?_; rintro e w1 ⟨rfl, hb1⟩; have HB1 := Lib.hid hb1; clear hb1)
  go_loopw [7] (fun i wr => ∃ k : Nat, k ≤ 70 ∧ i = .int .i64 k ∧ Below w.heap.size w wr) (fun i _ => 70 - (RowKit.intOf i).toNat)
  case atStart => exact ⟨0, by omega, rfl, HB1.out⟩
  case round =>
    obtain ⟨k, hk, rfl, hb⟩ := hrel
    have HB := Lib.hid hb
    clear hb
    by_cases hlt : k < 70
    · have hcell := HR.out (n + k) (by omega)
      rw [row_mark n f 70 k hlt, ← HB.out.cell hg] at hcell
      go_wp2
      go_roundw
      case rel => exact ⟨k + 1, by omega, rfl, HB.out⟩
      case measure => simp [RowKit.intOf]; omega
    · go_wp2
      go_ret
      exact ⟨rfl, HB.out⟩
end Go.Proofs.YtmifebcaifbmoaaGreatDoor.Byts
end

/- Cell -/
section
namespace Go.Proofs.YtmifebcaifbmoaaGreatDoor.Cell
open Go.RowKit Go.Lib Go.Proofs.YtmifebcaifbmoaaGreatDoor.Blk
section
variable {P : Program} {ops : Array Oper} {Q : Exit → Act → World → Prop} {a : Act} {w : World} {o : Oper} {rest : List Oper}
/-- a whole row is stored -/
theorem p_storerow (hgd : o.guard = none) (t : TypeId) (x y : Operand) (ho : o.op = .store t x y) (b : Nat) (hx : a.eval x = .pointer (some ⟨b, 0, none⟩)) (cs : Array Value) (hy : a.eval y = .agg cs) (hi : (P.info? t).map (·.size) = some cs.size) (h1 : ∀ v ∈ cs.toList, v.oneCell' = true) {T : TypeId} {cur : Array Value} (hb : w.heap[b]? = some (.cells cur T (0, 0))) (hol : cs.size = cur.size)
    (h : ∀ w', w'.heap[b]? = some (.cells cs T (0, 0)) → w.grownBy w' (some b) → w'.heap.size = w.heap.size → wpList P ops Q rest (a.put o.dst undef) w') : wpList P ops Q (o :: rest) a w := by
  have e : Tree.patch cur 0 cs.toList = cs := by
    apply Array.toList_inj.1
    simp [Tree.patch, hol]
  refine Tree.p_storemid hgd t x y ho b 0 hx cs hy hi h1 hb (by omega) ?_
  rw [e]
  exact h _ (setRow_heap w b cur cs T (0, 0) hb) ⟨rfl, rfl, rfl, by simp, fun x _ hc => setRow_other w b x _ (fun e => hc (by rw [e]))⟩ (by simp)
end
section
variable {P : Program} {a : Act} {w : World}
/-- a row is returned out of its cell -/
theorem ret_row {fn : Func} {p : Tmp} {ty : TypeId} {R : Ending → World → Prop} {b : Nat} {t : TypeId} {cs : Array Value} {d : TypeDesc} (hr : fn.results = #[.cell p ty])
    (hp : a.tmps.getD p undef = .pointer (some ⟨b, 0, none⟩)) (hA : w.heap[b]? = some (.cells cs t (0, 0))) (hu : P.underlying ty = some d) (hd : (match d with | .struct _ | .array _ _ => true | _ => false) = true)
    (hi : (P.info? ty).map (·.size) = some cs.size) (hdf : a.defers = []) (h : R (.returned (.agg cs)) w) : bodyPost P fn R .ret a w :=
  bodyPost_ret (v := .agg cs) (results_cell_row hr _ _ _ _ _ _ _ hp hA hu hd hi) hdf h
/-- a row and a slot are returned -/
theorem ret_row_tmp {fn : Func} {p u : Tmp} {ty : TypeId} {R : Ending → World → Prop} {b : Nat} {t : TypeId} {cs : Array Value} {d : TypeDesc} (hr : fn.results = #[.cell p ty, .tmp u])
    (hp : a.tmps.getD p undef = .pointer (some ⟨b, 0, none⟩)) (hA : w.heap[b]? = some (.cells cs t (0, 0))) (hu : P.underlying ty = some d) (hd : (match d with | .struct _ | .array _ _ => true | _ => false) = true)
    (hi : (P.info? ty).map (·.size) = some cs.size) (hdf : a.defers = []) {v : Value} (hv : a.tmps.getD u undef = v) (h : R (.returned (.tuple #[.agg cs, v])) w) : bodyPost P fn R .ret a w := by
  subst hv
  refine bodyPost_ret (v := .tuple #[.agg cs, a.tmps.getD u undef]) ?_ hdf h
  have hp' : (asAddr (a.tmps.getD p undef)).run P w = .ok ⟨b, 0, none⟩ w := by rw [hp]; rfl
  rw [results_cell_tmp hr, hp']
  simp only [Result.andThen_ok, run_loadVar_row w b t ty _ _ d hA hu hd hi]
end
end Go.Proofs.YtmifebcaifbmoaaGreatDoor.Cell
end

/- Push -/
section
namespace Go.Proofs.YtmifebcaifbmoaaGreatDoor.Push
open Go.RowKit Go.Lib Go.Proofs.YtmifebcaifbmoaaGreatDoor.Byts

/-- the bytes of a function -/
def bl (F : Nat → Nat) (n : Nat) : List Value := (List.range n).map fun j => Value.int .u8 (F j : Nat)
theorem bl_succ (F : Nat → Nat) (n : Nat) : bl F n ++ [.int .u8 (F n : Nat)] = bl F (n + 1) := by simp [bl, List.range_succ]
theorem bl_get (F : Nat → Nat) (n j : Nat) (h : j < n) : (bl F n)[j]? = some (.int .u8 (F j : Nat)) := by simp [bl, h]
theorem bl_len (F : Nat → Nat) (n : Nat) : (bl F n).length = n := by simp [bl]
theorem u8_info : ∃ i, Tryz.prog.info? 5 = some i ∧ i.zero = some (.int .u8 0) ∧ i.size = 1 ∧ i.bytes = 1 := by
  have h : (Tryz.prog.info? 5).map (fun i => (i.size, i.bytes, i.zero)) = some (1, 1, some (.int .u8 0)) := by kernel_rfl
  cases hi : Tryz.prog.info? 5 with
  | none => simp [hi] at h
  | some I =>
    simp only [hi, Option.map_some, Option.some.injEq, Prod.mk.injEq] at h
    exact ⟨I, rfl, h.2.2, h.1, h.2.1⟩
/-- what one push leaves -/
structure Pushed (B : Nat) (s : Value) (n : Nat) (xs : List Value) (w : World) (v' : Value) (w' : World) : Prop where
  own : w'.ownsRow B 5 1 v' (n + 1) xs
  bel : Below B w w'
  keep : ∀ g, g < w.heap.size → some g ≠ s.ownBlock → w'.heap[g]? = w.heap[g]?
section
variable {P : Program} {a : Act} {w : World} {o : Oper} {K : Act → World → Prop} {Q : Exit → Act → World → Prop}
/-- a list of one number is made -/
theorem w_lit1 (t e : TypeId) (x : Operand) (ho : o.op = .buildSlice t 1 #[(0, x)]) (k : IntKind) (v : Int) (hx : a.eval x = .int k v) (hu : P.underlying t = some (.slice e)) (hi : (P.info? e).map (·.size) = some 1) (hz : ((P.info? e).bind (·.zero)).isSome = true)
    (h : K (a.put o.dst (.slice (some ⟨w.heap.size, 0, none⟩) 1 1)) (w.alloc (.cells #[.int k v] e))) : o.wp P a w K Q := by
  cases hie : P.info? e with
  | none => simp [hie] at hi
  | some ie =>
    simp only [hie, Option.map_some, Option.some.injEq, Option.bind_some] at hi hz
    obtain ⟨z, hzz⟩ := Option.isSome_iff_exists.1 hz
    refine wp_buildSlice t e 1 _ ho _ ie z hu hie hzz (by rw [hi]; omega) (by rw [hi]; omega) ?_ h
    simp only [List.map_toArray, List.map_cons, List.map_nil, hx, hi]
    have := Great.fill_whole (s := 1) (by omega) [.int k v] ((Array.range (1 * 1)).map (z.cells[· % z.cells.size]!)) (fun v hv => by simp only [List.mem_singleton] at hv; subst hv; simp [Value.cells]) (by simp)
    simpa [Value.cells] using this
end
section
variable {ops : Array Oper} {Q : Exit → Act → World → Prop} {a : Act} {w : World} {o1 o2 : Oper} {rest : List Oper}
/-- append(l, one byte) -/
theorem p_push (hg1 : Region.wanted o1 (yielded ops a.tmps) = true) (x : Operand) (ho1 : o1.op = .buildSlice 22 1 #[(0, x)]) (v : Int) (hx : a.eval x = .int .u8 v)
    (s y : Operand) (ho2 : o2.op = .call { callee := .builtin .append, args := #[s, y], argTypes := #[22, 22] })
    (hg2 : Region.wanted o2 (yielded ops (a.put o1.dst (.slice (some ⟨w.heap.size, 0, none⟩) 1 1)).tmps) = true)
    (hy : (a.put o1.dst (.slice (some ⟨w.heap.size, 0, none⟩) 1 1)).eval y = .slice (some ⟨w.heap.size, 0, none⟩) 1 1) (sv : Value) (hs : (a.put o1.dst (.slice (some ⟨w.heap.size, 0, none⟩) 1 1)).eval s = sv)
    (B n : Nat) (xs : List Value) (hown : w.ownsRow B 5 1 sv n xs) (hn : n ≤ 140737488347136) (hB : B ≤ w.heap.size)
    (h : ∀ v' w', Pushed B sv n (xs ++ [.int .u8 v]) w v' w' → wpList Tryz.prog ops Q rest ((a.put o1.dst (.slice (some ⟨w.heap.size, 0, none⟩) 1 1)).put o2.dst v') w') : wpList Tryz.prog ops Q (o1 :: o2 :: rest) a w := by
  obtain ⟨i0, hi, hz0, hz1, hz2⟩ := u8_info
  refine Step.p_wp hg1 (w_lit1 _ _ _ ho1 .u8 v hx Tryz.underlying22 (by kernel_rfl) (by kernel_rfl) ?_)
  refine Step.p_wp hg2 (Step.w_append _ _ _ ho2 B 5 i0 (.int .u8 0) 1 1 Tryz.underlying22 hi hz0 hz1 hz2 rfl (by decide) sv n xs hs (hown.alloc _) ⟨w.heap.size, 0, none⟩ 1 1 [.int .u8 v] hy rfl (cell_one_new _ _ _) (by intro u hu; simp at hu; subst hu; rfl) (by unfold maxLen; omega) (by omega) (by simp; omega) ?_)
  intro v' w' ho hg _ _
  exact h v' w' ⟨ho, ((Below.refl B w).alloc hB _).grown hg (by simp; omega) (fun j hj => (hown.lt j hj).1), fun g hg1 hg2 => (hg.block g (by simp; omega) hg2).trans (heap_alloc_old w _ hg1)⟩
end
/-- an own list of n bytes -/
def OwnB (w : World) (B : Nat) (v : Value) (n : Nat) (F : Nat → Nat) : Prop := ∃ g c, v = .slice (some ⟨g, 0, none⟩) n c ∧ B ≤ g ∧ n ≤ c ∧ c ≤ 9223372036854775807 ∧ ∀ j, j < n → w.cell? ⟨g, j, none⟩ = some (.int .u8 (F j : Nat))
theorem ownB_of {w : World} {B : Nat} {v : Value} {n : Nat} {F : Nat → Nat} (h : w.ownsRow B 5 1 v n (bl F n)) (hn : 0 < n) : OwnB w B v n F := by
  rcases h.2 with ⟨_, h'⟩ | ⟨g, c, cu, rfl, h1, hg, n1, m1, _⟩
  · omega
  · exact ⟨g, c, rfl, h1, n1, m1, fun j hj => (h.cellAt j (by omega)).trans (bl_get F n j hj)⟩
theorem OwnB.below {w w' : World} {B : Nat} {v : Value} {n : Nat} {F : Nat → Nat} (h : OwnB w B v n F) (hb : Below w.heap.size w w') : OwnB w' B v n F := by
  obtain ⟨g, c, e, h1, h2, h3, h4⟩ := h
  exact ⟨g, c, e, h1, h2, h3, fun j hj => (hb.cell (p := ⟨g, j, none⟩) (Frame.block_lt (h4 j hj))).trans (h4 j hj)⟩
theorem OwnB.bl {w : World} {g c B n : Nat} {F : Nat → Nat} (h : OwnB w B (.slice (some ⟨g, 0, none⟩) n c) n F) : BL w (some ⟨g, 0, none⟩) n F := fun i hi => by
  obtain ⟨g', c', e, h1, h2, h3, h4⟩ := h
  cases e
  exact ⟨g, 0, rfl, by rw [Nat.zero_add]; exact h4 i hi⟩

set_option maxRecDepth 100000 in
set_option maxHeartbeats 4000000 in
/-- cofferref03.copied -/
theorem copied_any (g off n cap : Nat) (F : Nat → Nat) (w : World) (hn : 0 < n) (hn2 : n ≤ 140737488347136) (h : BL w (some ⟨g, off, none⟩) n F) : Calls Tryz.prog 48 #[.slice (some ⟨g, off, none⟩) n cap] w fun e w' => ∃ v, e = .returned v ∧ OwnB w' w.heap.size v n F ∧ Below w.heap.size w w' := by
  have H := Lib.hid h
  clear h
  go_enter Tryz.func48, Tryz.ntmps48
  go_wp2
  go_loopw [4, 3] (fun i s wr => ∃ k : Nat, k ≤ n ∧ i = .int .i64 k ∧ wr.ownsRow w.heap.size 5 1 s k (bl F k) ∧ Below w.heap.size w wr) (fun i _ _ => n - (RowKit.intOf i).toNat)
  case atStart => exact ⟨0, by omega, rfl, World.ownsRow_nil _ _ _ _, Below.refl _ _⟩
  case round =>
    obtain ⟨k, hk, rfl, hown, hbel⟩ := hrel
    have HO := Lib.hid hown
    have HB := Lib.hid hbel
    clear hown hbel
    by_cases hlt : k < n
    · obtain ⟨g', off', e, hc⟩ := H.out k hlt
      cases e
      have HC := Lib.hid ((HB.out.cell (p := ⟨g, off + k, none⟩) (Frame.block_lt hc)).trans hc)
      clear hc
      go_upto_region 5 with fail
      refine wp_region_lit ?_
      refine Step.p_move rfl _ rfl u3 rfl ?_
      simp only [Act.put, sA9, sB9, sC9]
      refine Step.p_move rfl _ rfl (.slice (some ⟨g, off, none⟩) n cap) rfl ?_
      simp only [Act.put, sA9, sB9, sC9]
      refine Step.p_move rfl _ rfl (.int .i64 k) rfl ?_
      simp only [Act.put, sA9, sB9, sC9]
      refine Step.p_index rfl _ 5 _ _ rfl g off n cap rfl k rfl hlt 1 Tryz.underlying22 (by kernel_rfl) ?_
      simp only [Act.put, sA9, sB9, sC9]
      refine Tree.p_load1 rfl _ _ rfl g (off + k * 1) rfl (.int .u8 (F k : Nat)) (by rw [Nat.mul_one]; exact HC.out) Tryz.underlying5 rfl ?_
      simp only [Act.put, sA9, sB9, sC9]
      refine p_push rfl _ rfl (F k : Nat) rfl _ _ rfl rfl rfl u3 rfl w.heap.size k _ HO.out (by omega) HB.out.size ?_
      intro v' w' hp
      simp only [Act.put, sA9, sB9, sC9]
      have HP := Lib.hid hp
      clear hp
      refine Step.p_assign rfl _ rfl v' rfl ?_
      simp only [Act.put, sA9, sB9, sC9]
      refine wpList_nil ?_
      go_wp2
      go_roundw
      case rel => exact ⟨k + 1, by omega, rfl, by rw [← bl_succ]; exact HP.out.own, HB.out.trans HP.out.bel⟩
      case measure => simp [RowKit.intOf]; omega
    · obtain rfl : k = n := by omega
      go_wp2
      go_ret
      exact ⟨_, rfl, ownB_of HO.out hn, HB.out⟩
end Go.Proofs.YtmifebcaifbmoaaGreatDoor.Push
end

/- Code -/
section
namespace Go.Proofs.YtmifebcaifbmoaaGreatDoor.Tw
open Go.RowKit Go.Lib Go.Proofs.YtmifebcaifbmoaaGreatDoor.Blk Go.Proofs.YtmifebcaifbmoaaGreatDoor.Aes Go.Proofs.YtmifebcaifbmoaaGreatDoor.Rj Go.Proofs.YtmifebcaifbmoaaGreatDoor.Field Go.Proofs.YtmifebcaifbmoaaGreatDoor.Poly

/-- the constants of the schedule, as the package's variable holds them -/
def RconAt (w : World) : Prop := ∀ i, i < 10 → w.cell? ⟨2, i, none⟩ = some (.int .u8 (rc i : Nat))
theorem RconAt.below {w w' : World} (h : RconAt w) (hb : Below w.heap.size w w') : RconAt w' := fun i hi => (hb.cell (p := ⟨2, i, none⟩) (Frame.block_lt (h i hi))).trans (h i hi)
/-- a block encrypted, blocks as numbers -/
def encN (k : Nat → Nat → Nat) (nr n : Nat) : Nat := lowN (encB k nr (byt n)) 16
/-- a key at hand in the heap -/
structure Sched (key : Nat → Nat) (nk : Nat) (v : Value) (w : World) : Prop where
  sz : nk = 4 ∨ nk = 6 ∨ nk = 8
  byt : Byt key (4 * nk)
  at_ : ∃ tb wb bb kb, v = .pointer (some ⟨kb, 0, none⟩) ∧ KeyAt (4 * nk : Nat) (rk nk key) (nk + 6) tb wb bb kb w
theorem Sched.below {key : Nat → Nat} {nk : Nat} {v : Value} {w w' : World} (h : Sched key nk v w) (hb : Below w.heap.size w w') : Sched key nk v w' := by
  obtain ⟨h1, h2, tb, wb, bb, kb, h3, h4⟩ := h
  exact ⟨h1, h2, tb, wb, bb, kb, h3, h4.below hb⟩
/-- the block of a key -/
def keyE (key : Nat → Nat) (nk n : Nat) : Nat := encN (rk nk key) (nk + 6) n
theorem encN_lt (k : Nat → Nat → Nat) (nr n : Nat) (h : Byt (encB k nr (byt n)) 16) : encN k nr n < 2 ^ 128 := by
  unfold encN
  have : lowN (encB k nr (byt n)) 16 = lowN (fun i => encB k nr (byt n) i % 256) 16 := lowN_congr fun i hi => (Nat.mod_eq_of_lt (h i hi)).symm
  rw [this]
  exact lowN_lt _ (fun _ => Nat.mod_lt _ (by decide)) 16
theorem byt_encN (k : Nat → Nat → Nat) (nr n : Nat) (h : Byt (encB k nr (byt n)) 16) : ∀ i, i < 16 → byt (encN k nr n) i = encB k nr (byt n) i := fun i hi => by
  unfold encN
  have : lowN (encB k nr (byt n)) 16 = lowN (fun i => encB k nr (byt n) i % 256) 16 := lowN_congr fun i hi => (Nat.mod_eq_of_lt (h i hi)).symm
  rw [this]
  rw [byt_lowN (fun _ => Nat.mod_lt _ (by decide)) hi]
  exact Nat.mod_eq_of_lt (h i hi)

set_option maxRecDepth 100000 in
set_option maxHeartbeats 4000000 in
theorem code_any (key : Nat → Nat) (nk : Nat) (v : Value) (n : Nat) (w : World) (hK : Sched key nk v w) :
    Calls Tryz.prog 106 #[v, B16 n] w fun e w' => e = .returned (B16 (keyE key nk n)) ∧ Below w.heap.size w w' := by
  obtain ⟨hnk, hkey, tb, wb, bb, kb, rfl, hK⟩ := hK
  have z16 : (Tryz.prog.info? 27).bind (·.zero) = some (.agg (arr .u8 16 fun _ => 0)) := by kernel_rfl
  have hkb := rk_byt hkey (by omega)
  have EN := Lib.hid (fun w h => encryptKey_any (4 * nk : Nat) (rk nk key) (nk + 6) (by omega) (by omega) hkb (byt n) (fun i _ => byt_lt n i) tb wb bb kb w h)
  have HB : Hid (Byt (encB (rk nk key) (nk + 6) (byt n)) 16) := Lib.hid (encB_byt (fun i _ => byt_lt n i) hkb)
  have HK := Lib.hid hK
  clear hK hkb hkey
  go_enter Tryz.func106, Tryz.ntmps106
  go_upto_region 0 with fail
  refine wp_region_lit ?_
  refine New.p_box rfl 27 _ rfl .u8 16 (fun i => ((byt n i : Nat) : Int)) rfl ?_
  intro w1 a1 g1 s1
  simp only [Act.put, sA9, sB9, sC9]
  refine New.p_newarr rfl 27 rfl .u8 16 z16 ?_
  intro w2 a2 g2 s2
  simp only [Act.put, sA9, sB9, sC9]
  rw [s1] at a2 s2 ⊢
  refine wpList_nil ?_
  have A1 := Lib.hid (bel_arr (_B := 0) a1 (bel_of_gb (_B := 0) g2))
  have A2 := Lib.hid a2
  have B2 := Lib.hid (((Below.refl w.heap.size w).grown g1 (Nat.le_refl _) (by simp)).grown g2 (by omega) (by simp))
  clear a1 g1 s1 a2 g2 s2
  go_upto_region 1 with fail
  refine wp_region_lit ?_
  refine Step.p_move rfl _ rfl (.pointer (some ⟨kb, 0, none⟩)) rfl ?_
  simp only [Act.put, sA9, sB9, sC9]
  refine Step.p_load rfl 27 _ rfl _ rfl A1.out Tryz.underlying27 rfl Field.info16 ?_
  simp only [Act.put, sA9, sB9, sC9]
  refine Step.p_wp rfl (Step.w_callx 52 [.tmp 8, .tmp 9] _ rfl Tryz.func52 (by kernel_rfl) rfl [.pointer (some ⟨kb, 0, none⟩), .agg (arr .u8 16 fun i => ((byt n i : Nat) : Int))] rfl (EN.out _ (HK.out.below B2.out)) ?_)
  rintro e w3 ⟨rfl, hb⟩
  refine ⟨_, rfl, ?_⟩
  simp only [Act.put, sA9, sB9, sC9]
  have E : Hid (arr .u8 16 (fun i => ((thrB mE S 1 (rk nk key) (nk + 6) (byt n) i : Nat) : Int)) = arr .u8 16 fun i => ((byt (keyE key nk n) i : Nat) : Int)) := Lib.hid (arr_congr fun i hi => by unfold keyE; rw [byt_encN _ _ _ HB.out i hi]; rfl)
  rw [E.out]
  have A3 := Lib.hid (bel_arr (_B := 0) A2.out hb)
  have B3 := Lib.hid (B2.out.trans (hb.mono B2.out.size))
  clear hb A1 A2 B2 EN HK
  refine Step.p_move rfl _ rfl (.tuple #[B16 (keyE key nk n), .int .i64 0]) rfl ?_
  simp only [Act.put, sA9, sB9, sC9]
  refine Step.p_val rfl (B16 (keyE key nk n)) (by unfold execOp; go_simp; try rfl) ?_
  simp only [Act.put, sA9, sB9, sC9]
  refine Step.p_val rfl (.int .i64 0) (by unfold execOp; go_simp; try rfl) ?_
  simp only [Act.put, sA9, sB9, sC9]
  refine New.p_newarr rfl 27 rfl .u8 16 z16 ?_
  intro w4 a4 g4 s4
  simp only [Act.put, sA9, sB9, sC9]
  refine Step.p_store 27 _ _ rfl w3.heap.size rfl rfl a4 Field.info16 rfl ?_
  intro w5 a5 g5 s5
  simp only [Act.put]
  refine Step.p_assign rfl _ rfl (.int .i64 0) rfl ?_
  simp only [Act.put, sA9, sB9, sC9]
  refine wpList_nil ?_
  have A5 := Lib.hid ((bel_arr (_B := 0) A3.out (bel_of_gb (_B := 0) g4)).grown g5 (by have := A3.out.lt; omega))
  have B5 := Lib.hid ((B3.out.grown g4 B3.out.size (by simp)).grown g5 (by have := B3.out.size; omega) (fun j hj => by cases hj; exact B3.out.size))
  have A6 := Lib.hid a5
  clear a4 g4 s4 a5 g5 s5
  go_upto_region 2 with fail
  refine wp_region_lit ?_
  refine Step.p_load rfl 27 _ rfl _ rfl A6.out Tryz.underlying27 rfl Field.info16 ?_
  simp only [Act.put, sA9, sB9, sC9]
  refine Step.p_store 27 _ _ rfl (w.heap.size + 1) rfl rfl A5.out Field.info16 rfl ?_
  intro w7 a7 g7 s7
  simp only [Act.put]
  refine wpList_nil ?_
  have B7 := Lib.hid (B5.out.grown g7 B5.out.size (fun j hj => by cases hj; exact Nat.le_succ _))
  clear g7
  go_wp2
  exact ret_arr rfl rfl a7 Tryz.underlying27 rfl Field.info16 rfl ⟨rfl, B7.out⟩

set_option maxRecDepth 100000 in
set_option maxHeartbeats 4000000 in
theorem scheduled_any (key : Nat → Nat) (nk : Nat) (hnk : nk = 4 ∨ nk = 6 ∨ nk = 8) (hkey : Byt key (4 * nk)) (g off cap : Nat) (w : World) (hc : ∀ j, j < 4 * nk → w.cell? ⟨g, off + j, none⟩ = some (.int .u8 (key j : Nat))) (hcap : 4 * nk ≤ cap) (hcm : cap ≤ 9223372036854775807) (hR : RconAt w) :
    Calls Tryz.prog 110 #[.slice (some ⟨g, off, none⟩) (4 * nk) cap] w fun e w' => ∃ v, e = .returned v ∧ Sched key nk v w' ∧ Below w.heap.size w w' := by
  have NW := Lib.hid (new_any key nk hnk hkey g off cap w hc hcap hcm hR)
  have HK := Lib.hid hkey
  have HN := Lib.hid hnk
  clear hc hR hkey hnk
  go_enter Tryz.func110, Tryz.ntmps110
  go_wp2_with (go_at_call 51; refine NW.out.mono ?_; rintro e w' ⟨kb, tb, wb, bb, rfl, hk, hb⟩)
  go_ret
  exact ⟨_, rfl, ⟨HN.out, HK.out, tb, wb, bb, kb, rfl, hk⟩, hb⟩
end Go.Proofs.YtmifebcaifbmoaaGreatDoor.Tw
end

/- Callv -/
section
namespace Go.Proofs.YtmifebcaifbmoaaGreatDoor.Step
open Go.RowKit Go.Lib
section
variable {P : Program} {o : Oper} {a : Act} {w : World} {K : Act → World → Prop} {Q : Exit → Act → World → Prop}
/-- a call of a function's value -/
theorem w_callv (x : Operand) (args : List Operand) (ts : Array TypeId) (ho : o.op = .call { callee := .value x, args := args.toArray, argTypes := ts }) (f : FuncId) (caps : List Value) (hx : a.eval x = .func (.func f) #[] caps.toArray)
    {fn : Func} (hf : P.funcs[f]? = some fn) (hn : (fn.name == "runtime.NumGoroutine") = false) (hb : fn.body.isNone = false) (vs : List Value) (hvs : args.map a.eval = vs) {R : Ending → World → Prop}
    (hc : Calls P f (vs ++ caps).toArray w R) (h : ∀ e w', R e w' → ∃ v, e = .returned v ∧ K (a.put o.dst v) w') : o.wp P a w K Q := by
  unfold Oper.wp execOp
  rw [ho]
  simp only [resolve, hx, Deferred.ofValue, Sem.run_bind, Sem.run_pure, Result.andThen_ok, invoke, Array.empty_append, callFunc, run_program, hf, hn, hb, Bool.false_eq_true, if_false]
  rw [List.map_toArray, show (args.map a.eval) = vs from hvs, List.append_toArray]
  exact hc.mono fun e w' hr => by
    obtain ⟨v, rfl, hk⟩ := h e w' hr
    exact hk
end
end Go.Proofs.YtmifebcaifbmoaaGreatDoor.Step
end
