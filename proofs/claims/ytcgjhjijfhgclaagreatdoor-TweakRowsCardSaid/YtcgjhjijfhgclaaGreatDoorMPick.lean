/- Lists of bytes: the contracts of cofferbook.Bytes, SameBytes, WholeBytes. -/
import Derived.Test.YtcgjhjijfhgclaaGreatDoorMBase
import Derived.Test.YtcgjhjijfhgclaaGreatDoorMTree2
import Derived.Test.YtcgjhjijfhgclaaGreatDoorMNew
import Derived.Laws.ResultCell
import Derived.Test.YtcgjhjijfhgclaaGreatDoorMTab0
namespace Go.Proofs.YtcgjhjijfhgclaaGreatDoor.Byts
open Go.RowKit Go.Lib Go.Proofs.YtcgjhjijfhgclaaGreatDoor.Blk

/-- a slice of n numbers f -/
def BL (w : World) (q : Option Addr) (n : Nat) (f : Nat → Nat) : Prop := ∀ i, i < n → ∃ g off, q = some ⟨g, off, none⟩ ∧ w.cell? ⟨g, off + i, none⟩ = some (.int .u8 (f i : Nat))
theorem BL.below {w w' : World} {q : Option Addr} {n : Nat} {f : Nat → Nat} (h : BL w q n f) (hb : Below w.heap.size w w') : BL w' q n f := fun i hi => by
  obtain ⟨g, off, e, hc⟩ := h i hi
  refine ⟨g, off, e, ?_⟩
  have hlt : g < w.heap.size := by
    rcases Nat.lt_or_ge g w.heap.size with h' | h'
    · exact h'
    · simp [World.cell?, Array.getElem?_eq_none h'] at hc
  rw [← hc]
  exact hb.cell hlt

set_option maxHeartbeats 1000000 in
/-- two lists that are alike -/
theorem sameBytes_any (q q2 : Option Addr) (n cap cap2 : Nat) (f : Nat → Nat) (w : World) (hn : n ≤ maxLen) (h1 : BL w q n f) (h2 : BL w q2 n f) :
    Calls Tryz.prog 14 #[.slice q n cap, .slice q2 n cap2] w fun e w' => e = .returned (.bool true) ∧ Below w.heap.size w w' := by
  have hn' : n ≤ 9223372036854775807 := hn
  have H1 := Lib.hid h1
  have H2 := Lib.hid h2
  clear h1 h2
  go_enter Tryz.func14, Tryz.ntmps14
  go_wp2
  go_loopw [5] (fun i wr => ∃ k : Nat, k ≤ n ∧ i = .int .i64 k ∧ Below w.heap.size w wr) (fun i _ => n - (intOf i).toNat)
  case atStart => exact ⟨0, by omega, rfl, Below.refl _ _⟩
  case round =>
    obtain ⟨k, hk, rfl, hb⟩ := hrel
    have HB := Lib.hid hb
    clear hb
    by_cases hlt : k < n
    · obtain ⟨g, off, rfl, hc⟩ := H1.out k hlt
      obtain ⟨g2, off2, rfl, hc2⟩ := H2.out k hlt
      have l1 := Frame.block_lt hc
      have l2 := Frame.block_lt hc2
      rw [← HB.out.cell l1] at hc
      rw [← HB.out.cell l2] at hc2
      go_wp2
      go_region
      go_wp2
      go_roundw
      case rel => exact ⟨k + 1, by omega, rfl, below_drewN HB.out _⟩
      case measure => simp [intOf]; omega
    · go_wp2
      go_ret
      exact ⟨rfl, HB.out⟩

/-- what Ints lays: the list, and the marks behind it -/
def row (n : Nat) (f : Nat → Nat) (k : Nat) : List Value := ((List.range n).map fun i => Value.int .u8 (f i : Nat)) ++ (List.range k).map fun (j : Nat) => Value.int .u8 (181 + j)
theorem row_succ (n : Nat) (f : Nat → Nat) (k : Nat) : row n f k ++ [.int .u8 (181 + k)] = row n f (k + 1) := by
  simp [row, List.range_succ]
theorem row_get (n : Nat) (f : Nat → Nat) (k i : Nat) (h : i < n) : (row n f k)[i]? = some (.int .u8 (f i : Nat)) := by
  simp [row, List.getElem?_append, h]
theorem row_mark (n : Nat) (f : Nat → Nat) (k j : Nat) (h : j < k) : (row n f k)[n + j]? = some (.int .u8 (181 + j)) := by
  simp [row, h]

set_option maxRecDepth 100000 in
set_option maxHeartbeats 1000000 in
/-- a list's own copy, marks behind it -/
theorem bytes_any (q : Option Addr) (n cap : Nat) (f : Nat → Nat) (w : World) (hn : n ≤ 140737488347136) (hle : n ≤ cap) (hq : q = none → n = 0 ∧ cap = 0) (h1 : BL w q n f) :
    Calls Tryz.prog 10 #[.slice q n cap] w fun e w' => ∃ g c, e = .returned (.slice (some ⟨g, 0, none⟩) n c) ∧ w.heap.size ≤ g ∧ n + 70 ≤ c ∧ c ≤ maxLen ∧ (∀ j, j < n + 70 → w'.cell? ⟨g, j, none⟩ = (row n f 70)[j]?) ∧ Below w.heap.size w w' ∧ ∃ cur, w'.heap[g]? = some (.cells cur 5 (0, 0)) := by
  have H1 := Lib.hid h1
  clear h1
  obtain ⟨i0, hi, hz0, hz1, hz2⟩ : ∃ i, Tryz.prog.info? 5 = some i ∧ i.zero = some (.int .u8 0) ∧ i.size = 1 ∧ i.bytes = 1 := by
    have h : (Tryz.prog.info? 5).map (fun i => (i.size, i.bytes, i.zero)) = some (1, 1, some (.int .u8 0)) := by kernel_rfl
    cases hi : Tryz.prog.info? 5 with
    | none => simp [hi] at h
    | some I =>
      simp only [hi, Option.map_some, Option.some.injEq, Prod.mk.injEq] at h
      exact ⟨I, rfl, h.2.2, h.1, h.2.1⟩
  go_enter Tryz.func10, Tryz.ntmps10
  go_upto_region 2 with fail
  go_cut [3] from 6 to 8 (fun s wx => wx.ownsRow w.heap.size 5 1 s n (row n f 0) ∧ Below w.heap.size w wx)
  case first =>
    cases hqq : q with
    | none =>
      obtain ⟨rfl, rfl⟩ := hq hqq
      subst hqq
      go_wp2_with (first | (at_builtin; refine wpList_append_own_none rfl _ _ 22 rfl w.heap.size 5 i0 1 Tryz.underlying22 hi _ 0 [] rfl (World.ownsRow_nil _ _ _ _) rfl ?_) | fail)
      go_wp2_with fail
      go_meet
      case rel => exact ⟨World.ownsRow_nil _ _ _ _, Below.refl _ _⟩
    | some a =>
      subst hqq
      go_wp2_with (first | (at_builtin; refine wpList_append_own_at _ rfl _ _ 22 rfl w.heap.size 5 i0 (.int .u8 0) 1 1 Tryz.underlying22 hi hz0 hz1 hz2 rfl (by decide) _ 0 [] rfl (World.ownsRow_nil _ _ _ _) a n cap (row n f 0) rfl ?c1 ?c2 ?c3 ?c4 ?c5 (Nat.le_refl _) ?_) | fail)
      case c1 => simp [row]
      case c2 =>
        intro j u hj
        have hjn : j < n := by
          have := (List.getElem?_eq_some_iff.1 hj).1
          simpa [row] using this
        obtain ⟨g, off, e, hc⟩ := H1.out j hjn
        cases e
        rw [row_get _ _ _ _ hjn] at hj
        rw [Addr.add_mid, hc, hj]
      case c3 =>
        intro u hu
        simp only [row, List.range_zero, List.map_nil, List.append_nil, List.mem_map] at hu
        obtain ⟨_, _, rfl⟩ := hu
        rfl
      case c4 => unfold maxLen; omega
      case c5 => omega
      · intro v' w1 hown hgrow _ _
        try simp only [Nat.zero_add, List.nil_append] at hown
        have HO := Lib.hid hown
        have HB := Lib.hid ((Below.refl w.heap.size w).grown hgrow (Nat.le_refl _) (fun j hj => by cases hj))
        clear hown hgrow
        go_wp2_with fail
        go_meet
        case rel => exact ⟨HO.out, HB.out⟩
  obtain ⟨hown, hbel⟩ := hcut
  have HO := Lib.hid hown
  have HB := Lib.hid hbel
  clear hown hbel
  go_wp2
  go_loopw [4, 3] (fun i s wr => ∃ k : Nat, k ≤ 70 ∧ i = .int .i64 k ∧ wr.ownsRow w.heap.size 5 1 s (n + k) (row n f k) ∧ Below w.heap.size w wr) (fun i _ _ => 70 - (intOf i).toNat)
  case atStart => exact ⟨0, by omega, rfl, HO.out, HB.out⟩
  case round =>
    obtain ⟨k, hk, rfl, hown, hbel⟩ := hrel
    have HO2 := Lib.hid hown
    have HB2 := Lib.hid hbel
    clear hown hbel HO HB
    by_cases hlt : k < 70
    · go_wp2_with (first | (at_builtin; refine wpList_append_own_at _ rfl _ _ 22 rfl w.heap.size 5 i0 (.int .u8 0) 1 1 Tryz.underlying22 hi hz0 hz1 hz2 rfl (by decide) _ (n + k) (row n f k) rfl (HO2.out.alloc _) ⟨wr.heap.size, 0, none⟩ 1 1 [.int .u8 (181 + k)] rfl rfl (cell_one_new _ _ _) ?c3 ?c4 ?c5 ?c6 ?_) | fail)
      case c3 => intro u hu; simp at hu; subst hu; rfl
      case c4 => unfold maxLen; omega
      case c5 => omega
      case c6 => have := HB2.out.size; simp; omega
      · intro v' w1 hown hgrow _ _
        rw [row_succ] at hown
        have HO3 := Lib.hid hown
        have HB3 := Lib.hid ((HB2.out.alloc HB2.out.size _).grown hgrow (by have := HB2.out.size; simp; omega) (fun j hj => (HO2.out.lt j hj).1))
        clear hown hgrow
        go_wp2_with fail
        go_roundw
        case rel => exact ⟨k + 1, by omega, rfl, HO3.out, HB3.out⟩
        case measure => simp [intOf]; omega
    · obtain rfl : k = 70 := by omega
      rcases HO2.out.2 with ⟨_, h⟩ | ⟨g, c, cur, rfl, hg, hcur, hnc, hcm, _, _⟩
      · omega
      · have hcm' : c ≤ 9223372036854775807 := hcm
        go_wp2
        go_ret
        refine ⟨g, c, rfl, hg, hnc, hcm, fun j hj => HO2.out.cellAt j (by omega), HB2.out, cur, hcur⟩

set_option maxHeartbeats 1000000 in
/-- a list of Ints, whole -/
theorem wholeBytes_any (g c : Nat) (q : Option Addr) (n cap : Nat) (f : Nat → Nat) (w : World) (hn : n ≤ 140737488347136) (hc : n + 70 ≤ c) (hcm : c ≤ maxLen) (hr : ∀ j, j < n + 70 → w.cell? ⟨g, j, none⟩ = (row n f 70)[j]?) (h1 : BL w q n f) :
    Calls Tryz.prog 19 #[.slice (some ⟨g, 0, none⟩) n c, .slice q n cap] w fun e w' => e = .returned (.bool true) ∧ Below w.heap.size w w' := by
  have hcm' : c ≤ 9223372036854775807 := hcm
  have h0 : BL w (some ⟨g, 0, none⟩) n f := fun i hi => ⟨g, 0, rfl, by rw [Nat.zero_add, hr i (by omega), row_get _ _ _ _ hi]⟩
  have H0 := Lib.hid h0
  have H1 := Lib.hid h1
  have HR := Lib.hid hr
  have hg : g < w.heap.size := by
    have h := hr n (by omega)
    have h2 := row_mark n f 70 0 (by omega)
    rw [Nat.add_zero] at h2
    rw [h2] at h
    exact Frame.block_lt h
  clear h0 h1 hr
  go_enter Tryz.func19, Tryz.ntmps19
  go_wp2_with (go_at_call 14; refine (sameBytes_any _ _ n _ _ f w (by unfold maxLen; omega) H0.out H1.out).mono ?_; rintro e w1 ⟨rfl, hb1⟩; have HB1 := Lib.hid hb1; clear hb1)
  go_loopw [7] (fun i wr => ∃ k : Nat, k ≤ 70 ∧ i = .int .i64 k ∧ Below w.heap.size w wr) (fun i _ => 70 - (intOf i).toNat)
  case atStart => exact ⟨0, by omega, rfl, HB1.out⟩
  case round =>
    obtain ⟨k, hk, rfl, hb⟩ := hrel
    have HB := Lib.hid hb
    clear hb
    by_cases hlt : k < 70
    · have hcell := HR.out (n + k) (by omega)
      rw [row_mark n f 70 k hlt, ← HB.out.cell hg] at hcell
      go_wp2
      go_roundw
      case rel => exact ⟨k + 1, by omega, rfl, HB.out⟩
      case measure => simp [intOf]; omega
    · go_wp2
      go_ret
      exact ⟨rfl, HB.out⟩
end Go.Proofs.YtcgjhjijfhgclaaGreatDoor.Byts

namespace Go.Proofs.YtcgjhjijfhgclaaGreatDoor.Cell
open Go.RowKit Go.Lib Go.Proofs.YtcgjhjijfhgclaaGreatDoor.Blk
section
variable {P : Program} {ops : Array Oper} {Q : Exit → Act → World → Prop} {a : Act} {w : World} {o : Oper} {rest : List Oper}
/-- a whole row is stored -/
theorem p_storerow (hgd : o.guard = none) (t : TypeId) (x y : Operand) (ho : o.op = .store t x y) (b : Nat) (hx : a.eval x = .pointer (some ⟨b, 0, none⟩)) (cs : Array Value) (hy : a.eval y = .agg cs) (hi : (P.info? t).map (·.size) = some cs.size) (h1 : ∀ v ∈ cs.toList, v.oneCell' = true) {T : TypeId} {cur : Array Value} (hb : w.heap[b]? = some (.cells cur T (0, 0))) (hol : cs.size = cur.size)
    (h : ∀ w', w'.heap[b]? = some (.cells cs T (0, 0)) → w.grownBy w' (some b) → w'.heap.size = w.heap.size → wpList P ops Q rest (a.put o.dst undef) w') : wpList P ops Q (o :: rest) a w := by
  have e : Tree.patch cur 0 cs.toList = cs := by
    apply Array.toList_inj.1
    simp [Tree.patch, hol]
  refine Tree.p_storemid hgd t x y ho b 0 hx cs hy hi h1 hb (by omega) ?_
  rw [e]
  exact h _ (setRow_heap w b cur cs T (0, 0) hb) ⟨rfl, rfl, rfl, by simp, fun x _ hc => setRow_other w b x _ (fun e => hc (by rw [e]))⟩ (by simp)
end
section
variable {P : Program} {a : Act} {w : World}
/-- a row is returned out of its cell -/
theorem ret_row {fn : Func} {p : Tmp} {ty : TypeId} {R : Ending → World → Prop} {b : Nat} {t : TypeId} {cs : Array Value} {d : TypeDesc} (hr : fn.results = #[.cell p ty])
    (hp : a.tmps.getD p undef = .pointer (some ⟨b, 0, none⟩)) (hA : w.heap[b]? = some (.cells cs t (0, 0))) (hu : P.underlying ty = some d) (hd : (match d with | .struct _ | .array _ _ => true | _ => false) = true)
    (hi : (P.info? ty).map (·.size) = some cs.size) (hdf : a.defers = []) (h : R (.returned (.agg cs)) w) : bodyPost P fn R .ret a w :=
  bodyPost_ret (v := .agg cs) (results_cell_row hr _ _ _ _ _ _ _ hp hA hu hd hi) hdf h
/-- a row and a slot are returned -/
theorem ret_row_tmp {fn : Func} {p u : Tmp} {ty : TypeId} {R : Ending → World → Prop} {b : Nat} {t : TypeId} {cs : Array Value} {d : TypeDesc} (hr : fn.results = #[.cell p ty, .tmp u])
    (hp : a.tmps.getD p undef = .pointer (some ⟨b, 0, none⟩)) (hA : w.heap[b]? = some (.cells cs t (0, 0))) (hu : P.underlying ty = some d) (hd : (match d with | .struct _ | .array _ _ => true | _ => false) = true)
    (hi : (P.info? ty).map (·.size) = some cs.size) (hdf : a.defers = []) {v : Value} (hv : a.tmps.getD u undef = v) (h : R (.returned (.tuple #[.agg cs, v])) w) : bodyPost P fn R .ret a w := by
  subst hv
  refine bodyPost_ret (v := .tuple #[.agg cs, a.tmps.getD u undef]) ?_ hdf h
  have hp' : (asAddr (a.tmps.getD p undef)).run P w = .ok ⟨b, 0, none⟩ w := by rw [hp]; rfl
  rw [results_cell_tmp hr, hp']
  simp only [Result.andThen_ok, run_loadVar_row w b t ty _ _ d hA hu hd hi]
end
end Go.Proofs.YtcgjhjijfhgclaaGreatDoor.Cell

namespace Go.Proofs.YtcgjhjijfhgclaaGreatDoor.Push
open Go.RowKit Go.Lib Go.Proofs.YtcgjhjijfhgclaaGreatDoor.Byts

/-- the bytes of a function -/
def bl (F : Nat → Nat) (n : Nat) : List Value := (List.range n).map fun j => Value.int .u8 (F j : Nat)
theorem bl_succ (F : Nat → Nat) (n : Nat) : bl F n ++ [.int .u8 (F n : Nat)] = bl F (n + 1) := by simp [bl, List.range_succ]
theorem bl_get (F : Nat → Nat) (n j : Nat) (h : j < n) : (bl F n)[j]? = some (.int .u8 (F j : Nat)) := by simp [bl, h]
theorem bl_len (F : Nat → Nat) (n : Nat) : (bl F n).length = n := by simp [bl]
theorem u8_info : ∃ i, Tryz.prog.info? 5 = some i ∧ i.zero = some (.int .u8 0) ∧ i.size = 1 ∧ i.bytes = 1 := by
  have h : (Tryz.prog.info? 5).map (fun i => (i.size, i.bytes, i.zero)) = some (1, 1, some (.int .u8 0)) := by kernel_rfl
  cases hi : Tryz.prog.info? 5 with
  | none => simp [hi] at h
  | some I =>
    simp only [hi, Option.map_some, Option.some.injEq, Prod.mk.injEq] at h
    exact ⟨I, rfl, h.2.2, h.1, h.2.1⟩
/-- what one push leaves -/
structure Pushed (B : Nat) (s : Value) (n : Nat) (xs : List Value) (w : World) (v' : Value) (w' : World) : Prop where
  own : w'.ownsRow B 5 1 v' (n + 1) xs
  bel : Below B w w'
  keep : ∀ g, g < w.heap.size → some g ≠ s.ownBlock → w'.heap[g]? = w.heap[g]?
section
variable {P : Program} {a : Act} {w : World} {o : Oper} {K : Act → World → Prop} {Q : Exit → Act → World → Prop}
/-- a list of one number is made -/
theorem w_lit1 (t e : TypeId) (x : Operand) (ho : o.op = .buildSlice t 1 #[(0, x)]) (k : IntKind) (v : Int) (hx : a.eval x = .int k v) (hu : P.underlying t = some (.slice e)) (hi : (P.info? e).map (·.size) = some 1) (hz : ((P.info? e).bind (·.zero)).isSome = true)
    (h : K (a.put o.dst (.slice (some ⟨w.heap.size, 0, none⟩) 1 1)) (w.alloc (.cells #[.int k v] e))) : o.wp P a w K Q := by
  cases hie : P.info? e with
  | none => simp [hie] at hi
  | some ie =>
    simp only [hie, Option.map_some, Option.some.injEq, Option.bind_some] at hi hz
    obtain ⟨z, hzz⟩ := Option.isSome_iff_exists.1 hz
    refine wp_buildSlice t e 1 _ ho _ ie z hu hie hzz (by rw [hi]; omega) (by rw [hi]; omega) ?_ h
    simp only [List.map_toArray, List.map_cons, List.map_nil, hx, hi]
    have := Great.fill_whole (s := 1) (by omega) [.int k v] ((Array.range (1 * 1)).map (z.cells[· % z.cells.size]!)) (fun v hv => by simp only [List.mem_singleton] at hv; subst hv; simp [Value.cells]) (by simp)
    simpa [Value.cells] using this
end
section
variable {ops : Array Oper} {Q : Exit → Act → World → Prop} {a : Act} {w : World} {o1 o2 : Oper} {rest : List Oper}
/-- append(l, one byte) -/
theorem p_push (hg1 : Region.wanted o1 (yielded ops a.tmps) = true) (x : Operand) (ho1 : o1.op = .buildSlice 22 1 #[(0, x)]) (v : Int) (hx : a.eval x = .int .u8 v)
    (s y : Operand) (ho2 : o2.op = .call { callee := .builtin .append, args := #[s, y], argTypes := #[22, 22] })
    (hg2 : Region.wanted o2 (yielded ops (a.put o1.dst (.slice (some ⟨w.heap.size, 0, none⟩) 1 1)).tmps) = true)
    (hy : (a.put o1.dst (.slice (some ⟨w.heap.size, 0, none⟩) 1 1)).eval y = .slice (some ⟨w.heap.size, 0, none⟩) 1 1) (sv : Value) (hs : (a.put o1.dst (.slice (some ⟨w.heap.size, 0, none⟩) 1 1)).eval s = sv)
    (B n : Nat) (xs : List Value) (hown : w.ownsRow B 5 1 sv n xs) (hn : n ≤ 140737488347136) (hB : B ≤ w.heap.size)
    (h : ∀ v' w', Pushed B sv n (xs ++ [.int .u8 v]) w v' w' → wpList Tryz.prog ops Q rest ((a.put o1.dst (.slice (some ⟨w.heap.size, 0, none⟩) 1 1)).put o2.dst v') w') : wpList Tryz.prog ops Q (o1 :: o2 :: rest) a w := by
  obtain ⟨i0, hi, hz0, hz1, hz2⟩ := u8_info
  refine Step.p_wp hg1 (w_lit1 _ _ _ ho1 .u8 v hx Tryz.underlying22 (by kernel_rfl) (by kernel_rfl) ?_)
  refine Step.p_wp hg2 (Step.w_append _ _ _ ho2 B 5 i0 (.int .u8 0) 1 1 Tryz.underlying22 hi hz0 hz1 hz2 rfl (by decide) sv n xs hs (hown.alloc _) ⟨w.heap.size, 0, none⟩ 1 1 [.int .u8 v] hy rfl (cell_one_new _ _ _) (by intro u hu; simp at hu; subst hu; rfl) (by unfold maxLen; omega) (by omega) (by simp; omega) ?_)
  intro v' w' ho hg _ _
  exact h v' w' ⟨ho, ((Below.refl B w).alloc hB _).grown hg (by simp; omega) (fun j hj => (hown.lt j hj).1), fun g hg1 hg2 => (hg.block g (by simp; omega) hg2).trans (heap_alloc_old w _ hg1)⟩
end
/-- an own list of n bytes -/
def OwnB (w : World) (B : Nat) (v : Value) (n : Nat) (F : Nat → Nat) : Prop := ∃ g c, v = .slice (some ⟨g, 0, none⟩) n c ∧ B ≤ g ∧ n ≤ c ∧ c ≤ 9223372036854775807 ∧ ∀ j, j < n → w.cell? ⟨g, j, none⟩ = some (.int .u8 (F j : Nat))
theorem ownB_of {w : World} {B : Nat} {v : Value} {n : Nat} {F : Nat → Nat} (h : w.ownsRow B 5 1 v n (bl F n)) (hn : 0 < n) : OwnB w B v n F := by
  rcases h.2 with ⟨_, h'⟩ | ⟨g, c, cu, rfl, h1, hg, n1, m1, _⟩
  · omega
  · exact ⟨g, c, rfl, h1, n1, m1, fun j hj => (h.cellAt j (by omega)).trans (bl_get F n j hj)⟩
theorem OwnB.below {w w' : World} {B : Nat} {v : Value} {n : Nat} {F : Nat → Nat} (h : OwnB w B v n F) (hb : Below w.heap.size w w') : OwnB w' B v n F := by
  obtain ⟨g, c, e, h1, h2, h3, h4⟩ := h
  exact ⟨g, c, e, h1, h2, h3, fun j hj => (hb.cell (p := ⟨g, j, none⟩) (Frame.block_lt (h4 j hj))).trans (h4 j hj)⟩
theorem OwnB.bl {w : World} {g c B n : Nat} {F : Nat → Nat} (h : OwnB w B (.slice (some ⟨g, 0, none⟩) n c) n F) : BL w (some ⟨g, 0, none⟩) n F := fun i hi => by
  obtain ⟨g', c', e, h1, h2, h3, h4⟩ := h
  cases e
  exact ⟨g, 0, rfl, by rw [Nat.zero_add]; exact h4 i hi⟩

set_option maxRecDepth 100000 in
set_option maxHeartbeats 4000000 in
/-- cofferref03.copied -/
theorem copied_any (g off n cap : Nat) (F : Nat → Nat) (w : World) (hn : 0 < n) (hn2 : n ≤ 140737488347136) (h : BL w (some ⟨g, off, none⟩) n F) : Calls Tryz.prog 28 #[.slice (some ⟨g, off, none⟩) n cap] w fun e w' => ∃ v, e = .returned v ∧ OwnB w' w.heap.size v n F ∧ Below w.heap.size w w' := by
  have H := Lib.hid h
  clear h
  go_enter Tryz.func28, Tryz.ntmps28
  go_wp2
  go_loopw [4, 3] (fun i s wr => ∃ k : Nat, k ≤ n ∧ i = .int .i64 k ∧ wr.ownsRow w.heap.size 5 1 s k (bl F k) ∧ Below w.heap.size w wr) (fun i _ _ => n - (intOf i).toNat)
  case atStart => exact ⟨0, by omega, rfl, World.ownsRow_nil _ _ _ _, Below.refl _ _⟩
  case round =>
    obtain ⟨k, hk, rfl, hown, hbel⟩ := hrel
    have HO := Lib.hid hown
    have HB := Lib.hid hbel
    clear hown hbel
    by_cases hlt : k < n
    · obtain ⟨g', off', e, hc⟩ := H.out k hlt
      cases e
      have HC := Lib.hid ((HB.out.cell (p := ⟨g, off + k, none⟩) (Frame.block_lt hc)).trans hc)
      clear hc
      go_upto_region 5 with fail
      refine wp_region_lit ?_
      refine Step.p_move rfl _ rfl u3 rfl ?_
      simp only [Act.put, List.setIfInBounds_toArray, List.set_cons_zero, List.set_cons_succ]
      refine Step.p_move rfl _ rfl (.slice (some ⟨g, off, none⟩) n cap) rfl ?_
      simp only [Act.put, List.setIfInBounds_toArray, List.set_cons_zero, List.set_cons_succ]
      refine Step.p_move rfl _ rfl (.int .i64 k) rfl ?_
      simp only [Act.put, List.setIfInBounds_toArray, List.set_cons_zero, List.set_cons_succ]
      refine Step.p_index rfl _ 5 _ _ rfl g off n cap rfl k rfl hlt 1 Tryz.underlying22 (by kernel_rfl) ?_
      simp only [Act.put, List.setIfInBounds_toArray, List.set_cons_zero, List.set_cons_succ]
      refine Tree.p_load1 rfl _ _ rfl g (off + k * 1) rfl (.int .u8 (F k : Nat)) (by rw [Nat.mul_one]; exact HC.out) Tryz.underlying5 rfl ?_
      simp only [Act.put, List.setIfInBounds_toArray, List.set_cons_zero, List.set_cons_succ]
      refine p_push rfl _ rfl (F k : Nat) rfl _ _ rfl rfl rfl u3 rfl w.heap.size k _ HO.out (by omega) HB.out.size ?_
      intro v' w' hp
      simp only [Act.put, List.setIfInBounds_toArray, List.set_cons_zero, List.set_cons_succ]
      have HP := Lib.hid hp
      clear hp
      refine Step.p_assign rfl _ rfl v' rfl ?_
      simp only [Act.put, List.setIfInBounds_toArray, List.set_cons_zero, List.set_cons_succ]
      refine wpList_nil ?_
      go_wp2
      go_roundw
      case rel => exact ⟨k + 1, by omega, rfl, by rw [← bl_succ]; exact HP.out.own, HB.out.trans HP.out.bel⟩
      case measure => simp [intOf]; omega
    · obtain rfl : k = n := by omega
      go_wp2
      go_ret
      exact ⟨_, rfl, ownB_of HO.out hn, HB.out⟩
end Go.Proofs.YtcgjhjijfhgclaaGreatDoor.Push

namespace Go.Proofs.YtcgjhjijfhgclaaGreatDoor.Tab
open Go.RowKit Go.Lib Go.Proofs.YtcgjhjijfhgclaaGreatDoor.Byts

/-- the row that a number picks -/
def pk (z : Int) : Nat := (z % 18446744073709551616).toNat % 52
theorem pk_lt (z : Int) : pk z < 52 := Nat.mod_lt _ (by decide)
theorem rowL_form (t : Nat) : ∃ s1 s2 s3 z1 z2, rowL t = [.string s1, .string s2, .string s3, .int .i64 z1, .int .i64 z2] := by
  unfold rowL
  split
  · exact ⟨_, _, _, _, _, rfl⟩
  · exact ⟨_, _, _, _, _, rfl⟩
theorem num_any (z : Int) (w : World) : Calls Tryz.prog 12 #[.int .i64 z] w fun e w' => e = .returned (.int .i64 z) ∧ w = w' := by
  go_enter Tryz.func12, Tryz.ntmps12
  go_wp2
  go_ret
  exact ⟨rfl, rfl⟩
def pickV (z : Int) (q : Option Addr) (n cap : Nat) : Value := .agg #[.int .i64 z, .slice q n cap]

/-- a pick in its own block, and an empty row behind it -/
structure PkW (z : Int) (q : Option Addr) (n cap : Nat) (B : Nat) (w w' : World) : Prop where
  p : w'.heap[B]? = some (.cells #[.int .i64 z, .slice q n cap] 24 (0, 0))
  r : w'.heap[B + 1]? = some (.cells #[.string ⟨#[]⟩, .string ⟨#[]⟩, .string ⟨#[]⟩, .int .i64 0, .int .i64 0] 49 (0, 0))
  bel : Below B w w'
theorem PkW.next {z : Int} {q : Option Addr} {n cap B : Nat} {w w1 w2 : World} (h : PkW z q n cap B w w1) (hb : Below w1.heap.size w1 w2) : PkW z q n cap B w w2 :=
  ⟨(hb.block B (Array.getElem?_eq_some_iff.1 h.p).1).trans h.p, (hb.block (B + 1) (Array.getElem?_eq_some_iff.1 h.r).1).trans h.r, h.bel.trans (hb.mono (by have := (Array.getElem?_eq_some_iff.1 h.p).1; omega))⟩
theorem pkw_new (z : Int) (q : Option Addr) (n cap : Nat) (w : World) : PkW z q n cap w.heap.size w ((w.alloc (.cells #[.int .i64 z, .slice q n cap] 24)).alloc (.cells #[.string ⟨#[]⟩, .string ⟨#[]⟩, .string ⟨#[]⟩, .int .i64 0, .int .i64 0] 49)) :=
  ⟨(heap_alloc_old _ _ (by simp)).trans (heap_alloc_new w _), by
    have := heap_alloc_new (w.alloc (.cells #[.int .i64 z, .slice q n cap] 24)) (.cells #[.string ⟨#[]⟩, .string ⟨#[]⟩, .string ⟨#[]⟩, .int .i64 0, .int .i64 0] 49)
    simp only [World.size_alloc] at this
    exact this, ((Below.refl _ _).alloc (Nat.le_refl _) _).alloc (by simp) _⟩
theorem own_row {w : World} {B : Nat} {t : TypeId} {v : Value} {n : Nat} {xs : List Value} (h : w.ownsRow B t 5 v n xs) (hn : 0 < n) : ∃ g c, v = .slice (some ⟨g, 0, none⟩) n c ∧ B ≤ g ∧ n ≤ c ∧ c ≤ 9223372036854775807 ∧ ∀ j, j < n * 5 → w.cell? ⟨g, j, none⟩ = xs[j]? := by
  rcases h.2 with ⟨_, h'⟩ | ⟨g, c, cu, rfl, h1, hg, n1, m1, _⟩
  · omega
  · exact ⟨g, c, rfl, h1, n1, m1, fun j hj => h.cellAt j hj⟩

set_option maxRecDepth 100000 in
set_option maxHeartbeats 4000000 in
theorem row_any (z : Int) (_hz : IntKind.i64.has z) (q : Option Addr) (n cap : Nat) (w : World) (hM : Modes w) : Calls Tryz.prog 17 #[pickV z q n cap] w fun e w' => e = .returned (.agg (rowL (pk z)).toArray) ∧ Below w.heap.size w w' := by
  have HP := Lib.hid (pkw_new z q n cap w)
  have HR := Lib.hid (fun w (h : Modes w) => rows_any w h)
  have HM := Lib.hid hM
  clear hM
  unfold pickV
  go_enter Tryz.func17, Tryz.ntmps17
  go_upto_region 1 with fail
  generalize (w.alloc (.cells #[.int .i64 z, .slice q n cap] 24)).alloc (.cells #[.string ⟨#[]⟩, .string ⟨#[]⟩, .string ⟨#[]⟩, .int .i64 0, .int .i64 0] 49) = w1 at *
  go_upto_region 2 with (go_at_call 23; refine (HR.out _ (HM.out.below HP.out.bel)).mono ?_; rintro e w2 ⟨v, xs, rfl, hown, hrows, hb⟩)
  obtain ⟨g, c, rfl, hg1, hc1, hc2, hcell⟩ := own_row hown (by decide)
  have H2 := Lib.hid (HP.out.next hb)
  have HC : Hid (w2.rangeAt g (0 + pk z * 5) (rowL (pk z))) := Lib.hid fun j u hj => by
    have hj5 : j < 5 := by have := (List.getElem?_eq_some_iff.1 hj).1; rwa [rowL_len] at this
    have ht := pk_lt z
    rw [hcell _ (by omega), show 0 + pk z * 5 + j = 5 * pk z + j by omega, hrows _ ht j hj5, hj]
  clear hcell hown hrows hb HP HM HR
  have PL := pk_lt z
  have PE : Hid ((((z % 18446744073709551616).toNat % 52 : Nat) : Int) = (pk z : Nat)) := Lib.hid rfl
  obtain ⟨s1, s2, s3, z1, z2, hL⟩ := rowL_form (pk z)
  have HL := Lib.hid hL
  rw [hL] at HC
  clear hL
  generalize hpt : pk z = t at *
  have HPT := Lib.hid hpt
  clear hpt
  refine wp_region_lit ?_
  refine Step.p_move rfl _ rfl (.slice (some ⟨g, 0, none⟩) 52 c) rfl ?_
  simp only [Act.put, List.setIfInBounds_toArray, List.set_cons_zero, List.set_cons_succ]
  refine Tree.p_field rfl _ _ _ rfl (w.heap.size) (0) rfl Tryz.underlying24 rfl (sz := 1) (by kernel_rfl) (by decide) (0) rfl ?_
  simp only [Act.put, List.setIfInBounds_toArray, List.set_cons_zero, List.set_cons_succ]
  refine Tree.p_load1 rfl _ _ rfl (w.heap.size) (0) rfl (.int .i64 z) (by rw [cell_of_row w2 _ _ _ _ _ H2.out.p]; rfl) Tryz.underlying3 rfl ?_
  simp only [Act.put, List.setIfInBounds_toArray, List.set_cons_zero, List.set_cons_succ]
  refine Step.p_val rfl (.int .u64 (z % 18446744073709551616)) (by unfold execOp; go_simp; exact IntKind.wrap_u64 z) ?_
  simp only [Act.put, List.setIfInBounds_toArray, List.set_cons_zero, List.set_cons_succ]
  refine Step.p_move rfl _ rfl (.slice (some ⟨g, 0, none⟩) 52 c) rfl ?_
  simp only [Act.put, List.setIfInBounds_toArray, List.set_cons_zero, List.set_cons_succ]
  refine Step.p_len rfl _ _ 49 rfl (_) (52) (c) rfl Tryz.underlying69 ?_
  simp only [Act.put, List.setIfInBounds_toArray, List.set_cons_zero, List.set_cons_succ]
  refine Step.p_val rfl (.int .u64 52) (by unfold execOp; go_simp; try rfl) ?_
  simp only [Act.put, List.setIfInBounds_toArray, List.set_cons_zero, List.set_cons_succ]
  refine Step.p_val rfl (.int .u64 (t : Nat)) (by unfold execOp; go_simp; rw [← PE.out, Int.tmod_eq_emod_of_nonneg (by omega)]; omega) ?_
  simp only [Act.put, List.setIfInBounds_toArray, List.set_cons_zero, List.set_cons_succ]
  refine Step.p_val rfl (.int .i64 (t : Nat)) (by unfold execOp; go_simp; try exact IntWalk.i64_in _ (by omega)) ?_
  simp only [Act.put, List.setIfInBounds_toArray, List.set_cons_zero, List.set_cons_succ]
  refine Step.p_index rfl _ 49 _ _ rfl g 0 52 c rfl t rfl PL 5 Tryz.underlying69 (by kernel_rfl) ?_
  simp only [Act.put, List.setIfInBounds_toArray, List.set_cons_zero, List.set_cons_succ]
  refine Tree.p_loadmid rfl _ _ rfl (g) (0 + t * 5) rfl [.string s1, .string s2, .string s3, .int .i64 z1, .int .i64 z2] (HC.out) Tryz.underlying49 rfl (by kernel_rfl) ?_
  simp only [Act.put, List.setIfInBounds_toArray, List.set_cons_zero, List.set_cons_succ]
  refine Cell.p_storerow rfl 49 _ _ rfl (w.heap.size + 1) rfl _ rfl (by kernel_rfl) (by simp [Value.oneCell']) H2.out.r rfl ?_
  intro w3 hr3 hg3 _
  simp only [Act.put]
  refine wpList_nil ?_
  have B3 := Lib.hid (H2.out.bel.grown hg3 H2.out.bel.size (fun j hj => by cases hj; exact Nat.le_succ _))
  clear hg3
  go_wp2
  exact Cell.ret_row rfl rfl hr3 Tryz.underlying49 rfl (by kernel_rfl) rfl ⟨by rw [HPT.out, HL.out], B3.out⟩
end Go.Proofs.YtcgjhjijfhgclaaGreatDoor.Tab

namespace Go.Proofs.YtcgjhjijfhgclaaGreatDoor.Tab
open Go.RowKit Go.Lib Go.Proofs.YtcgjhjijfhgclaaGreatDoor.Byts Go.Proofs.YtcgjhjijfhgclaaGreatDoor.Push

/-- bytes of the whole key, by the row -/
def szN (t : Nat) : Nat := if t = 0 then 0 else (szT ((t - 1) / 17) ((t - 1) % 17)).toNat
theorem szN_le (t : Nat) (h : t < 52) : szN t ≤ 96 := by
  unfold szN szT
  have := moT_bd ((t - 1) % 17) (Nat.mod_lt _ (by decide))
  split
  · omega
  · split <;> omega
theorem rowL_sz (t : Nat) : ∃ s1 s2 s3 z1, rowL t = [.string s1, .string s2, .string s3, .int .i64 z1, .int .i64 (szN t : Nat)] := by
  unfold rowL szN
  split
  · exact ⟨_, _, _, _, rfl⟩
  · refine ⟨name t, mdT ((t - 1) % 17), stT ((t - 1) % 17), 16 + 8 * ((t - 1) / 17 : Nat), ?_⟩
    have : 0 ≤ szT ((t - 1) / 17) ((t - 1) % 17) := by
      unfold szT
      have := moT_bd ((t - 1) % 17) (Nat.mod_lt _ (by decide))
      split <;> omega
    rw [Int.toNat_of_nonneg this]
/-- byte j of a key -/
def keyF (n : Nat) (f : Nat → Nat) (j : Nat) : Nat := if n = 0 then 7 * j % 256 else f (j % n)
/-- byte j of what is sealed -/
def fitF (n : Nat) (f : Nat → Nat) (j : Nat) : Nat := if n = 0 then j * j % 256 else f (j % n)
structure PkV (z : Int) (q : Option Addr) (n cap : Nat) (B : Nat) (w w' : World) : Prop where
  p : w'.heap[B]? = some (.cells #[.int .i64 z, .slice q n cap] 24 (0, 0))
  bel : Below B w w'
theorem PkV.next {z : Int} {q : Option Addr} {n cap B : Nat} {w w1 w2 : World} (h : PkV z q n cap B w w1) (hb : Below w1.heap.size w1 w2) : PkV z q n cap B w w2 :=
  ⟨(hb.block B (Array.getElem?_eq_some_iff.1 h.p).1).trans h.p, h.bel.trans (hb.mono (by have := (Array.getElem?_eq_some_iff.1 h.p).1; omega))⟩
theorem PkV.lt {z : Int} {q : Option Addr} {n cap B : Nat} {w w1 : World} (h : PkV z q n cap B w w1) : B < w1.heap.size := (Array.getElem?_eq_some_iff.1 h.p).1
theorem PkV.drew {z : Int} {q : Option Addr} {n cap B : Nat} {w w1 : World} (h : PkV z q n cap B w w1) : PkV z q n cap B w w1.drew := ⟨h.p, h.bel.drew⟩
theorem PkV.alloc {z : Int} {q : Option Addr} {n cap B : Nat} {w w1 : World} (h : PkV z q n cap B w w1) (o : Obj) : PkV z q n cap B w (w1.alloc o) := ⟨(heap_alloc_old w1 o h.lt).trans h.p, h.bel.alloc (Nat.le_of_lt h.lt) o⟩
theorem pkv_new (z : Int) (q : Option Addr) (n cap : Nat) (w : World) : PkV z q n cap w.heap.size w (w.alloc (.cells #[.int .i64 z, .slice q n cap] 24)) :=
  ⟨heap_alloc_new w _, (Below.refl _ _).alloc (Nat.le_refl _) _⟩
theorem own_ne' {w : World} {base : Nat} {e : TypeId} {size : Nat} {v : Value} {n : Nat} {xs : List Value} (h : w.ownsRow base e size v n xs) {g : Nat} (hg : g < base) : some g ≠ v.ownBlock := fun e => by
  have := (h.lt g e.symm).1
  omega

set_option maxRecDepth 100000 in
set_option maxHeartbeats 4000000 in
theorem key_any (z : Int) (hz : IntKind.i64.has z) (q : Option Addr) (n cap : Nat) (f : Nat → Nat) (w : World) (hM : Modes w) (hf : BL w q n f) (_hnc : n ≤ cap) (_hcm : cap ≤ 9223372036854775807) (hs : 0 < szN (pk z)) :
    Calls Tryz.prog 15 #[pickV z q n cap] w fun e w' => ∃ v, e = .returned v ∧ OwnB w' w.heap.size v (szN (pk z)) (keyF n f) ∧ Below w.heap.size w w' := by
  have HP := Lib.hid (pkv_new z q n cap w)
  have HR := Lib.hid (fun w (h : Modes w) => row_any z hz q n cap w h)
  have HM := Lib.hid hM
  have HF := Lib.hid hf
  have LE := szN_le (pk z) (pk_lt z)
  clear hM hf
  unfold pickV at *
  go_enter Tryz.func15, Tryz.ntmps15
  go_upto_region 1 with fail
  generalize w.alloc (.cells #[.int .i64 z, .slice q n cap] 24) = w1 at *
  obtain ⟨s1, s2, s3, z1, hL⟩ := rowL_sz (pk z)
  rw [hL] at HR
  clear hL
  generalize hpt : szN (pk z) = sz at *
  have HPT := Lib.hid hpt
  clear hpt
  refine wp_region_lit ?_
  refine Tree.p_loadrow rfl _ _ rfl (w.heap.size) rfl (HP.out.p) Tryz.underlying24 rfl ((by kernel_rfl)) ?_
  simp only [Act.put, List.setIfInBounds_toArray, List.set_cons_zero, List.set_cons_succ]
  refine Step.p_wp rfl (Step.w_callx 17 [.tmp 6] _ rfl Tryz.func17 (by kernel_rfl) rfl [.agg #[.int .i64 z, .slice q n cap]] rfl (HR.out _ (HM.out.below HP.out.bel)) ?_)
  rintro e w2 ⟨rfl, hb⟩
  refine ⟨_, rfl, ?_⟩
  simp only [Act.put, List.setIfInBounds_toArray, List.set_cons_zero, List.set_cons_succ]
  refine Step.p_val rfl (.int .i64 (sz : Nat)) (by unfold execOp; go_simp; try rfl) ?_
  simp only [Act.put, List.setIfInBounds_toArray, List.set_cons_zero, List.set_cons_succ]
  refine Step.p_assign rfl _ rfl (.int .i64 (sz : Nat)) rfl ?_
  simp only [Act.put, List.setIfInBounds_toArray, List.set_cons_zero, List.set_cons_succ]
  refine wpList_nil ?_
  have H2 := Lib.hid (HP.out.next hb)
  clear hb HP HR HM
  have H2l := H2.out.lt
  go_wp2
  go_loopw [5, 4] (fun i s wr => ∃ k : Nat, k ≤ sz ∧ i = .int .i64 k ∧ wr.ownsRow (w.heap.size + 1) 5 1 s k (bl (keyF n f) k) ∧ PkV z q n cap w.heap.size w wr) (fun i _ _ => sz - (intOf i).toNat)
  case atStart => exact ⟨0, by omega, rfl, World.ownsRow_nil _ _ _ _, H2.out⟩
  case round =>
    obtain ⟨k, hk, rfl, hown, hp⟩ := hrel
    have HO := Lib.hid hown
    have HP := Lib.hid hp
    clear hown hp H2
    by_cases hlt : k < sz
    · have hcell : wr.cell? ⟨w.heap.size, 1, none⟩ = some (.slice q n cap) := by rw [cell_of_row wr _ _ _ _ _ HP.out.p]; rfl
      have HC := Lib.hid hcell
      have hwl := HP.out.lt
      by_cases hn : n = 0
      · have KF : Hid (keyF n f k = 7 * k % 256) := Lib.hid (by unfold keyF; rw [if_pos hn])
        go_upto_region 7 with fail
        clear hn
        refine wp_region_lit ?_
        refine Step.p_move rfl _ rfl (u4) rfl ?_
        simp only [Act.put, List.setIfInBounds_toArray, List.set_cons_zero, List.set_cons_succ]
        refine Step.p_move rfl _ rfl (.int .i64 k) rfl ?_
        simp only [Act.put, List.setIfInBounds_toArray, List.set_cons_zero, List.set_cons_succ]
        refine Step.p_val rfl (.int .i64 (7 * k : Nat)) (by unfold execOp; go_simp; try (first | rfl | omega | exact (IntWalk.i64_in _ (by omega)).trans (by omega))) ?_
        simp only [Act.put, List.setIfInBounds_toArray, List.set_cons_zero, List.set_cons_succ]
        refine Step.p_val rfl (.int .u8 (keyF n f k : Nat)) (by unfold execOp; go_simp; rw [KF.out, IntKind.wrap_u8]; omega) ?_
        simp only [Act.put, List.setIfInBounds_toArray, List.set_cons_zero, List.set_cons_succ]
        refine p_push rfl _ rfl (keyF n f k : Nat) rfl _ _ rfl rfl rfl u4 rfl (w.heap.size + 1) k _ HO.out (by omega) hwl ?_
        intro v' w' hp
        simp only [Act.put, List.setIfInBounds_toArray, List.set_cons_zero, List.set_cons_succ]
        have HQ := Lib.hid hp
        clear hp
        refine Step.p_assign rfl _ rfl (v') rfl ?_
        simp only [Act.put, List.setIfInBounds_toArray, List.set_cons_zero, List.set_cons_succ]
        refine wpList_nil ?_
        go_wp2
        go_roundw
        case rel => exact ⟨k + 1, by omega, rfl, by rw [← bl_succ]; exact HQ.out.own, ⟨(HQ.out.keep _ hwl (own_ne' HO.out (by omega))).trans HP.out.p, HP.out.bel.trans (HQ.out.bel.mono (by omega))⟩⟩
        case measure => simp [intOf]; omega
      · have hni : ¬ ((n : Int) = 0) := by omega
        have hm : k % n < n := Nat.mod_lt _ (by omega)
        have hmod : (k : Int).tmod n = (k % n : Nat) := rfl
        obtain ⟨gq, oq, rfl, hc⟩ := HF.out (k % n) hm
        have KF : Hid (keyF n f k = f (k % n)) := Lib.hid (by unfold keyF; rw [if_neg hn])
        generalize k % n = m at *
        have HD : Hid (∀ w', PkV z (some ⟨gq, oq, none⟩) n cap w.heap.size w w' → w'.cell? ⟨gq, oq + m * 1, none⟩ = some (.int .u8 (keyF n f k : Nat))) := Lib.hid fun w' h => by
          rw [KF.out, Nat.mul_one]
          exact (h.bel.cell (p := ⟨gq, oq + m, none⟩) (Frame.block_lt hc)).trans hc
        clear hc
        go_upto_region 8 with fail
        refine Step.begin_ (S := fun w' => PkV z (some ⟨gq, oq, none⟩) n cap w.heap.size w w') 13 rfl (by kernel_rfl) HP.out.drew ?_
        intro hS
        have SX := Lib.hid hS
        clear hS
        have CF : Hid (∀ w', PkV z (some ⟨gq, oq, none⟩) n cap w.heap.size w w' → w'.cell? ⟨w.heap.size, 1, none⟩ = some (.slice (some ⟨gq, oq, none⟩) n cap)) := Lib.hid fun w' h => by rw [cell_of_row w' _ _ _ _ _ h.p]; rfl
        have H0 : Hid (wr.drew.ownsRow (w.heap.size + 1) 5 1 u4 k (bl (keyF n f) k)) := Lib.hid HO.out.drew
        refine Step.t_move (i := 0) rfl rfl (by kernel_rfl) (by kernel_rfl) (by kernel_rfl) SX.out _ rfl u4 rfl ?_
        simp only [Act.put, List.setIfInBounds_toArray, List.set_cons_zero, List.set_cons_succ]
        refine Tree.t_field (i := 1) rfl rfl (by kernel_rfl) (by kernel_rfl) (by kernel_rfl) SX.out _ _ _ rfl w.heap.size 0 rfl Tryz.underlying24 rfl (sz := 1) (by kernel_rfl) (by decide) 1 rfl ?_
        simp only [Act.put, List.setIfInBounds_toArray, List.set_cons_zero, List.set_cons_succ]
        refine Tree.t_load1 (i := 2) rfl rfl (by kernel_rfl) (by kernel_rfl) (by kernel_rfl) SX.out _ _ rfl w.heap.size 1 rfl (.slice (some ⟨gq, oq, none⟩) n cap) CF.out Tryz.underlying22 rfl ?_
        simp only [Act.put, List.setIfInBounds_toArray, List.set_cons_zero, List.set_cons_succ]
        refine Step.t_move (i := 3) rfl rfl (by kernel_rfl) (by kernel_rfl) (by kernel_rfl) SX.out _ rfl (.int .i64 k) rfl ?_
        simp only [Act.put, List.setIfInBounds_toArray, List.set_cons_zero, List.set_cons_succ]
        refine Tree.t_field (i := 4) rfl rfl (by kernel_rfl) (by kernel_rfl) (by kernel_rfl) SX.out _ _ _ rfl w.heap.size 0 rfl Tryz.underlying24 rfl (sz := 1) (by kernel_rfl) (by decide) 1 rfl ?_
        simp only [Act.put, List.setIfInBounds_toArray, List.set_cons_zero, List.set_cons_succ]
        refine Tree.t_load1 (i := 5) rfl rfl (by kernel_rfl) (by kernel_rfl) (by kernel_rfl) SX.out _ _ rfl w.heap.size 1 rfl (.slice (some ⟨gq, oq, none⟩) n cap) CF.out Tryz.underlying22 rfl ?_
        simp only [Act.put, List.setIfInBounds_toArray, List.set_cons_zero, List.set_cons_succ]
        refine Step.t_val (i := 6) rfl rfl (by kernel_rfl) (by kernel_rfl) (by kernel_rfl) SX.out (.int .i64 n) (fun w' _ => by unfold execOp; go_simp) ?_
        simp only [Act.put, List.setIfInBounds_toArray, List.set_cons_zero, List.set_cons_succ]
        refine Step.t_val (i := 7) rfl rfl (by kernel_rfl) (by kernel_rfl) (by kernel_rfl) SX.out (.int .i64 m) (fun w' _ => by unfold execOp; go_simp; first | omega | (rw [if_neg (by omega)]) | trace_state) ?_
        simp only [Act.put, List.setIfInBounds_toArray, List.set_cons_zero, List.set_cons_succ]
        refine Step.t_index (i := 8) rfl rfl (by kernel_rfl) (by kernel_rfl) (by kernel_rfl) SX.out _ 5 _ _ rfl gq oq n cap rfl m rfl hm 1 Tryz.underlying22 (by kernel_rfl) ?_
        simp only [Act.put, List.setIfInBounds_toArray, List.set_cons_zero, List.set_cons_succ]
        refine Tree.t_load1 (i := 9) rfl rfl (by kernel_rfl) (by kernel_rfl) (by kernel_rfl) SX.out _ _ rfl gq (oq + m * 1) rfl (.int .u8 (keyF n f k : Nat)) HD.out Tryz.underlying5 rfl ?_
        simp only [Act.put, List.setIfInBounds_toArray, List.set_cons_zero, List.set_cons_succ]
        refine Step.t_one (i := 10) rfl rfl (by kernel_rfl) ?_
        refine w_lit1 _ _ _ rfl .u8 (keyF n f k : Nat) rfl Tryz.underlying22 (by kernel_rfl) (by kernel_rfl) ?_
        refine ⟨SX.out.alloc _, ?_⟩
        simp only [Act.put, List.setIfInBounds_toArray, List.set_cons_zero, List.set_cons_succ]
        obtain ⟨i0, hi, hz0, hz1, hz2⟩ := u8_info
        refine Step.t_one (i := 11) rfl rfl (by kernel_rfl) ?_
        refine Step.w_append _ _ 22 rfl (w.heap.size + 1) 5 i0 (.int .u8 0) 1 1 Tryz.underlying22 hi hz0 hz1 hz2 rfl (by decide) u4 k _ rfl (H0.out.alloc _) ⟨wr.drew.heap.size, 0, none⟩ 1 1 [.int .u8 (keyF n f k : Nat)] rfl rfl (cell_one_new _ _ _) (by intro u hu; simp at hu; subst hu; rfl) (by unfold maxLen; omega) (by omega) (by simp; omega) ?_
        intro v' w' ho hg _ _
        have S1 : PkV z (some ⟨gq, oq, none⟩) n cap w.heap.size w w' := ⟨(hg.block _ (SX.out.alloc _).lt (own_ne' H0.out (by omega))).trans (SX.out.alloc _).p, (SX.out.alloc _).bel.grown hg (Nat.le_of_lt (SX.out.alloc _).lt) (fun j hj => by have := (H0.out.lt j hj).1; omega)⟩
        have HO2 := Lib.hid ho
        have HP2 := Lib.hid S1
        clear ho hg
        refine ⟨S1, ?_⟩
        simp only [Act.put, List.setIfInBounds_toArray, List.set_cons_zero, List.set_cons_succ]
        refine Step.t_assign (i := 12) rfl rfl (by kernel_rfl) (by kernel_rfl) (by kernel_rfl) S1 _ rfl v' rfl ?_
        simp only [Act.put, List.setIfInBounds_toArray, List.set_cons_zero, List.set_cons_succ]
        refine Step.t_end (by kernel_rfl) ?_
        clear S1
        go_wp2
        go_roundw
        case rel => exact ⟨k + 1, by omega, rfl, by rw [← bl_succ]; exact HO2.out, HP2.out⟩
        case measure => simp [intOf]; omega
    · obtain rfl : k = sz := by omega
      go_wp2
      go_ret
      obtain ⟨g, c, e, h1, h2⟩ := ownB_of HO.out (by rw [HPT.out] at *; omega)
      rw [HPT.out]
      exact ⟨_, rfl, ⟨g, c, e, by omega, h2⟩, HP.out.bel⟩
end Go.Proofs.YtcgjhjijfhgclaaGreatDoor.Tab

namespace Go.Proofs.YtcgjhjijfhgclaaGreatDoor.Tab
open Go.RowKit Go.Lib Go.Proofs.YtcgjhjijfhgclaaGreatDoor.Byts Go.Proofs.YtcgjhjijfhgclaaGreatDoor.Push

/-- how many bytes are sealed -/
def fitN (z : Int) (whole : Bool) : Nat := if whole then (16 + (z % 18446744073709551616).toNat % 497) / 16 * 16 else 16 + (z % 18446744073709551616).toNat % 497
theorem fitN_bd (z : Int) (whole : Bool) : 16 ≤ fitN z whole ∧ fitN z whole ≤ 512 := by
  unfold fitN
  split <;> omega

set_option maxRecDepth 100000 in
set_option maxHeartbeats 4000000 in
theorem fit_any (q : Option Addr) (n cap : Nat) (f : Nat → Nat) (z : Int) (_hz : IntKind.i64.has z) (whole : Bool) (w : World) (hf : BL w q n f) (_hnc : n ≤ cap) (_hcm : cap ≤ 9223372036854775807) :
    Calls Tryz.prog 9 #[.slice q n cap, .int .i64 z, .bool whole] w fun e w' => ∃ v, e = .returned v ∧ OwnB w' w.heap.size v (fitN z whole) (fitF n f) ∧ Below w.heap.size w w' := by
  have HF := Lib.hid hf
  clear hf
  obtain ⟨LE1, LE2⟩ := fitN_bd z whole
  go_enter Tryz.func9, Tryz.ntmps9
  go_upto_region 1 with fail
  refine wp_region_lit ?_
  refine Step.p_move rfl _ rfl (.int .i64 z) rfl ?_
  simp only [Act.put, List.setIfInBounds_toArray, List.set_cons_zero, List.set_cons_succ]
  refine Step.p_val rfl (.int .u64 (z % 18446744073709551616)) (by unfold execOp; go_simp; exact IntKind.wrap_u64 z) ?_
  simp only [Act.put, List.setIfInBounds_toArray, List.set_cons_zero, List.set_cons_succ]
  refine Step.p_val rfl (.int .u64 ((z % 18446744073709551616).toNat % 497 : Nat)) (by unfold execOp; go_simp; rw [Int.tmod_eq_emod_of_nonneg (by omega)]; omega) ?_
  simp only [Act.put, List.setIfInBounds_toArray, List.set_cons_zero, List.set_cons_succ]
  refine Step.p_val rfl (.int .i64 ((z % 18446744073709551616).toNat % 497 : Nat)) (by unfold execOp; go_simp; try exact IntWalk.i64_in _ (by omega)) ?_
  simp only [Act.put, List.setIfInBounds_toArray, List.set_cons_zero, List.set_cons_succ]
  refine Step.p_val rfl (.int .i64 (16 + (z % 18446744073709551616).toNat % 497 : Nat)) (by unfold execOp; go_simp; exact (IntWalk.i64_in _ (by omega)).trans (by omega)) ?_
  simp only [Act.put, List.setIfInBounds_toArray, List.set_cons_zero, List.set_cons_succ]
  refine Step.p_assign rfl _ rfl (.int .i64 (16 + (z % 18446744073709551616).toNat % 497 : Nat)) rfl ?_
  simp only [Act.put, List.setIfInBounds_toArray, List.set_cons_zero, List.set_cons_succ]
  refine wpList_nil ?_
  cases whole
  case' true =>
    have e : fitN z true = (16 + (z % 18446744073709551616).toNat % 497) / 16 * 16 := rfl
    have hm0 : 16 + (z % 18446744073709551616).toNat % 497 ≤ 512 := by omega
    generalize 16 + (z % 18446744073709551616).toNat % 497 = m at *
    go_upto_region 3 with fail
    refine wp_region_lit ?_
    refine Step.p_move rfl _ rfl (.int .i64 (m : Nat)) rfl ?_
    simp only [Act.put, List.setIfInBounds_toArray, List.set_cons_zero, List.set_cons_succ]
    refine Step.p_val rfl (.int .i64 (m / 16 : Nat)) (by unfold execOp; go_simp; exact IntWalk.i64_in _ (by omega)) ?_
    simp only [Act.put, List.setIfInBounds_toArray, List.set_cons_zero, List.set_cons_succ]
    refine Step.p_val rfl (.int .i64 (fitN z true : Nat)) (by unfold execOp; go_simp; exact IntWalk.i64_in _ (by omega)) ?_
    simp only [Act.put, List.setIfInBounds_toArray, List.set_cons_zero, List.set_cons_succ]
    refine Step.p_assign rfl _ rfl (.int .i64 (fitN z true : Nat)) rfl ?_
    simp only [Act.put, List.setIfInBounds_toArray, List.set_cons_zero, List.set_cons_succ]
    refine wpList_nil ?_
    generalize hS : fitN z true = sz at *
    clear e
    go_wp2
  case' false =>
    rw [show 16 + (z % 18446744073709551616).toNat % 497 = fitN z false from rfl]
    generalize hS : fitN z false = sz at *
    go_wp2
  all_goals
    go_loopw [9, 8] (fun i s wr => ∃ k : Nat, k ≤ sz ∧ i = .int .i64 k ∧ wr.ownsRow w.heap.size 5 1 s k (bl (fitF n f) k) ∧ Below w.heap.size w wr) (fun i _ _ => sz - (intOf i).toNat)
    case atStart => exact ⟨0, by omega, rfl, World.ownsRow_nil _ _ _ _, Below.refl _ _⟩
    case round =>
      obtain ⟨k, hk, rfl, hown, hp⟩ := hrel
      have HO := Lib.hid hown
      have HB := Lib.hid hp
      clear hown hp
      by_cases hlt : k < sz
      · have hwl := HB.out.size
        by_cases hn : n = 0
        · have KF : Hid (fitF n f k = k * k % 256) := Lib.hid (by unfold fitF; rw [if_pos hn])
          have hkk : k * k ≤ 512 * 512 := Nat.mul_le_mul (by omega) (by omega)
          have HKK : Hid ((k : Int) * (k : Int) = (k * k : Nat)) := Lib.hid (by simp)
          generalize hke : k * k = kk at *
          have HKE := Lib.hid hke
          clear hke
          go_upto_region 9 with fail
          clear hn
          refine wp_region_lit ?_
          refine Step.p_move rfl _ rfl (u8) rfl ?_
          simp only [Act.put, List.setIfInBounds_toArray, List.set_cons_zero, List.set_cons_succ]
          refine Step.p_move rfl _ rfl (.int .i64 k) rfl ?_
          simp only [Act.put, List.setIfInBounds_toArray, List.set_cons_zero, List.set_cons_succ]
          refine Step.p_move rfl _ rfl (.int .i64 k) rfl ?_
          simp only [Act.put, List.setIfInBounds_toArray, List.set_cons_zero, List.set_cons_succ]
          refine Step.p_val rfl (.int .i64 (kk : Nat)) (by unfold execOp; go_simp; rw [HKK.out]; exact IntWalk.i64_in _ (by omega)) ?_
          simp only [Act.put, List.setIfInBounds_toArray, List.set_cons_zero, List.set_cons_succ]
          refine Step.p_val rfl (.int .u8 (fitF n f k : Nat)) (by unfold execOp; go_simp; rw [KF.out, IntKind.wrap_u8]; omega) ?_
          simp only [Act.put, List.setIfInBounds_toArray, List.set_cons_zero, List.set_cons_succ]
          refine p_push rfl _ rfl (fitF n f k : Nat) rfl _ _ rfl rfl rfl u8 rfl w.heap.size k _ HO.out (by omega) hwl ?_
          intro v' w' hp
          simp only [Act.put, List.setIfInBounds_toArray, List.set_cons_zero, List.set_cons_succ]
          have HQ := Lib.hid hp
          clear hp
          refine Step.p_assign rfl _ rfl (v') rfl ?_
          simp only [Act.put, List.setIfInBounds_toArray, List.set_cons_zero, List.set_cons_succ]
          refine wpList_nil ?_
          go_wp2
          go_roundw
          case rel => exact ⟨k + 1, by omega, rfl, by rw [← bl_succ]; exact HQ.out.own, HB.out.trans HQ.out.bel⟩
          case measure => simp [intOf]; omega
        · have hni : ¬ ((n : Int) = 0) := by omega
          have hm : k % n < n := Nat.mod_lt _ (by omega)
          obtain ⟨gq, oq, rfl, hc⟩ := HF.out (k % n) hm
          have KF : Hid (fitF n f k = f (k % n)) := Lib.hid (by unfold fitF; rw [if_neg hn])
          have HMD : Hid ((k : Int).tmod n = (k % n : Nat)) := Lib.hid rfl
          generalize k % n = m at *
          have HD : Hid (wr.cell? ⟨gq, oq + m * 1, none⟩ = some (.int .u8 (fitF n f k : Nat))) := Lib.hid (by
            rw [KF.out, Nat.mul_one]
            exact (HB.out.cell (p := ⟨gq, oq + m, none⟩) (Frame.block_lt hc)).trans hc)
          clear hc
          go_upto_region 10 with fail
          refine wp_region_lit ?_
          refine Step.p_move rfl _ rfl (u8) rfl ?_
          simp only [Act.put, List.setIfInBounds_toArray, List.set_cons_zero, List.set_cons_succ]
          refine Step.p_move rfl _ rfl (.slice (some ⟨gq, oq, none⟩) n cap) rfl ?_
          simp only [Act.put, List.setIfInBounds_toArray, List.set_cons_zero, List.set_cons_succ]
          refine Step.p_move rfl _ rfl (.int .i64 k) rfl ?_
          simp only [Act.put, List.setIfInBounds_toArray, List.set_cons_zero, List.set_cons_succ]
          refine Step.p_move rfl _ rfl (.slice (some ⟨gq, oq, none⟩) n cap) rfl ?_
          simp only [Act.put, List.setIfInBounds_toArray, List.set_cons_zero, List.set_cons_succ]
          refine Step.p_len rfl _ _ 5 rfl (_) (n) (cap) rfl Tryz.underlying22 ?_
          simp only [Act.put, List.setIfInBounds_toArray, List.set_cons_zero, List.set_cons_succ]
          refine Step.p_val rfl (.int .i64 (m : Nat)) (by unfold execOp; have := HMD.out; go_simp; try (first | omega | (rw [if_neg (by omega)]))) ?_
          simp only [Act.put, List.setIfInBounds_toArray, List.set_cons_zero, List.set_cons_succ]
          refine Step.p_index rfl _ 5 _ _ rfl gq oq n cap rfl m rfl hm 1 Tryz.underlying22 (by kernel_rfl) ?_
          simp only [Act.put, List.setIfInBounds_toArray, List.set_cons_zero, List.set_cons_succ]
          refine Tree.p_load1 rfl _ _ rfl (gq) (oq + m * 1) rfl (.int .u8 (fitF n f k : Nat)) (HD.out) Tryz.underlying5 rfl ?_
          simp only [Act.put, List.setIfInBounds_toArray, List.set_cons_zero, List.set_cons_succ]
          refine p_push rfl _ rfl (fitF n f k : Nat) rfl _ _ rfl rfl rfl u8 rfl w.heap.size k _ HO.out (by omega) hwl ?_
          intro v' w' hp
          simp only [Act.put, List.setIfInBounds_toArray, List.set_cons_zero, List.set_cons_succ]
          have HQ := Lib.hid hp
          clear hp
          refine Step.p_assign rfl _ rfl (v') rfl ?_
          simp only [Act.put, List.setIfInBounds_toArray, List.set_cons_zero, List.set_cons_succ]
          refine wpList_nil ?_
          go_wp2
          go_roundw
          case rel => exact ⟨k + 1, by omega, rfl, by rw [← bl_succ]; exact HQ.out.own, HB.out.trans HQ.out.bel⟩
          case measure => simp [intOf]; omega
      · obtain rfl : k = sz := by omega
        go_wp2
        go_ret
        exact ⟨_, rfl, by rw [hS]; exact ownB_of HO.out (by omega), HB.out⟩
end Go.Proofs.YtcgjhjijfhgclaaGreatDoor.Tab
