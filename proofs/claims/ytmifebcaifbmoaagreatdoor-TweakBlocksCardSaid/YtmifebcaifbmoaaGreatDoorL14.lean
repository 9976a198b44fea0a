/- Parts of the proof of TweakBlocks. TabR: cofferref03.Rows: the document's table of names. Pick: cofferlaw03: Pick.row, key; fit; num. -/
import Derived.Test.YtmifebcaifbmoaaGreatDoorL00
import Derived.Lib.Agree
import Derived.Test.YtmifebcaifbmoaaGreatDoorL13
import Derived.Test.YtmifebcaifbmoaaGreatDoorL12
/- TabR -/
section
namespace Go.Proofs.YtmifebcaifbmoaaGreatDoor.Tab
open Go.RowKit Go.Lib

/-- a table of n rows -/
def RowsOk (xs : List Value) (n : Nat) : Prop := ∀ t, t < n → ∀ c, c < 5 → xs[5 * t + c]? = (rowL t)[c]?
theorem rows_succ {xs : List Value} {n : Nat} (h : RowsOk xs n) (hl : xs.length = n * 5) : RowsOk (xs ++ rowL n) (n + 1) := by
  intro t ht c hc
  by_cases e : t < n
  · rw [List.getElem?_append_left (by omega)]; exact h t e c hc
  · obtain rfl : t = n := by omega
    rw [List.getElem?_append_right (by omega), hl, show 5 * t + c - t * 5 = c by omega]
theorem row_info : (Tryz.prog.info? 45).map (fun i => (i.zero, i.size, i.bytes)) = some (some (.agg #[.string ⟨#[]⟩, .string ⟨#[]⟩, .string ⟨#[]⟩, .int .i64 0, .int .i64 0]), 5, 64) := by kernel_rfl
/-- what a round reads -/
structure RS (bn bm : Nat) (k : Nat) (md st : ByteArray) (mo : Int) (w : World) : Prop where
  n : w.heap[bn]? = some (.cells #[.string (pre 0), .string (pre 1), .string (pre 2)] 9 (0, 0))
  m : w.heap[bm]? = some (.cells #[.string (nm k), .string md, .string st, .int .i64 mo] 116 (0, 0))
theorem RS.alloc {bn bm k : Nat} {md st : ByteArray} {mo : Int} {w : World} (h : RS bn bm k md st mo w) (o : Obj) : RS bn bm k md st mo (w.alloc o) :=
  ⟨(heap_alloc_old w o (Array.getElem?_eq_some_iff.1 h.n).1).trans h.n, (heap_alloc_old w o (Array.getElem?_eq_some_iff.1 h.m).1).trans h.m⟩

section
variable {P : Program} {o : Oper} {a : Act} {w : World} {K : Act → World → Prop} {Q : Exit → Act → World → Prop}
/-- a list of one struct is made -/
theorem w_oneC (t e : TypeId) (x : Operand) (ho : o.op = .buildSlice t 1 #[(0, x)]) (cs : Array Value) {n : Nat} (hcs : cs.size = n)
    (hx : a.eval x = .agg cs) (hu : P.underlying t = some (.slice e)) (hi : (P.info? e).map (·.size) = some n) (hz : ((P.info? e).bind (·.zero)).isSome = true) (hn : 0 < n) (hn2 : n ≤ 2 ^ 24)
    (h : K (a.put o.dst (.slice (some ⟨w.heap.size, 0, none⟩) 1 1)) (w.alloc (.cells cs e))) : o.wp P a w K Q := by
  cases hie : P.info? e with
  | none => simp [hie] at hi
  | some ie =>
    simp only [hie, Option.map_some, Option.some.injEq, Option.bind_some] at hi hz
    obtain ⟨z, hzz⟩ := Option.isSome_iff_exists.1 hz
    refine wp_buildSlice t e 1 _ ho _ ie z hu hie hzz (by rw [hi]; omega) (by rw [hi]; omega) ?_ h
    simp only [List.map_toArray, List.map_cons, List.map_nil, hx, hi]
    have := Great.fill_whole (s := n) hn [.agg cs] ((Array.range (1 * n)).map (z.cells[· % z.cells.size]!)) (fun v hv => by simp only [List.mem_singleton] at hv; subst hv; simp [Value.cells, hcs]) (by simp)
    simpa [Value.cells] using this
end

section
variable {P : Program} {Q : Exit → Act → World → Prop} {S : World → Prop} {a : Act} {w : World} {fuel : Nat} {listed : Array Bool} {i : Nat} {o : Oper} {tl l : List Oper} (hi : l.drop i = o :: tl) (hg : Region.wanted o (yielded l.toArray a.tmps) = true) (hs : Region.noSelect l.toArray = true) (hf : Region.free .any l.toArray listed i = true) (hr : (Region.ready .any l.toArray listed).contains i = true) (hS : S w)
include hi hg hs hf hr hS
theorem t_load1 (ty : TypeId) (x : Operand) (ho : o.op = .load ty x) (b off : Nat) (hx : a.eval x = .pointer (some ⟨b, off, none⟩)) {d : TypeDesc} (v : Value) (hA : ∀ w, S w → w.cell? ⟨b, off, none⟩ = some v) (hu : P.underlying ty = some d) (hd : Step.oneD d = true)
    (h : wpAnyH P .any l.toArray (NoPanic Q) S fuel (listed.setIfInBounds i true) (a.put o.dst v) w) : wpAnyH P .any l.toArray (NoPanic Q) S (fuel + 1) listed a w :=
  Step.t_val hi hg hs hf hr hS v (fun w hw => by
    unfold execOp
    simp only [ho, hx, Instr.loadAt, Instr.sureAddr, Sem.run_bind, Sem.run_pure, Result.andThen_ok, Step.run_load1 ty b off hu hd (hA w hw)]) h
theorem t_add (t r : TypeId) (x y : Operand) (ho : o.op = .binOp .add t x y r) (s1 s2 : ByteArray) (hx : a.eval x = .string s1) (hy : a.eval y = .string s2) (hle : s1.size + s2.size ≤ 1000)
    (h : wpAnyH P .any l.toArray (NoPanic Q) S fuel (listed.setIfInBounds i true) (a.put o.dst (.string (s1 ++ s2))) w) : wpAnyH P .any l.toArray (NoPanic Q) S (fuel + 1) listed a w :=
  Step.t_val hi hg hs hf hr hS _ (fun w _ => by
    unfold execOp
    rw [ho]
    simp only [hx, hy]
    simp [go_sem, Op.stringOp]
    omega) h
theorem t_field (s : TypeId) (x : Operand) (f : Nat) (ho : o.op = .fieldAddr s x f) (b off : Nat) (hx : a.eval x = .pointer (some ⟨b, off, none⟩)) {fs : Array Field} {fd : Field} (hu : P.underlying s = some (.struct fs)) (hfd : fs[f]? = some fd) {sz : Nat} (hi' : (P.info? fd.type).map (·.size) = some sz) (hsz : sz ≠ 0) (off2 : Nat) (ho2 : off + fd.offset = off2)
    (h : wpAnyH P .any l.toArray (NoPanic Q) S fuel (listed.setIfInBounds i true) (a.put o.dst (.pointer (some ⟨b, off2, none⟩))) w) : wpAnyH P .any l.toArray (NoPanic Q) S (fuel + 1) listed a w :=
  Step.t_val hi hg hs hf hr hS _ (fun w _ => by
    subst ho2
    unfold execOp
    simp only [ho, hx, Sem.run_bind, Step.run_field0 s b off f hu hfd hi' hsz, Result.andThen_ok, Sem.run_pure]) h
end
theorem five_new (w : World) (cs : Array Value) (t : TypeId) : ∀ j u, cs.toList[j]? = some u → (w.alloc (.cells cs t)).cell? ((⟨w.heap.size, 0, none⟩ : Addr).add j) = some u := by
  intro j u hj
  rw [Addr.add_mid, Nat.zero_add, cell_of_row _ _ j cs t _ (heap_alloc_new w _)]
  simpa using hj
theorem pre_cell {w : World} {b : Nat} {t : TypeId} {k : Nat} (h : w.heap[b]? = some (.cells #[.string (pre 0), .string (pre 1), .string (pre 2)] t (0, 0))) (hk : k < 3) : w.cell? ⟨b, 0 + k * 1, none⟩ = some (.string (pre k)) := by
  rw [cell_of_row w b _ _ _ _ h]
  match k, hk with
  | 0, _ => rfl
  | 1, _ => rfl
  | 2, _ => rfl

set_option maxRecDepth 100000 in
set_option maxHeartbeats 4000000 in
theorem rows_any (w : World) (hM : Modes w) : Calls Tryz.prog 42 #[] w fun e w' => ∃ v xs, e = .returned v ∧ w'.ownsRow w.heap.size 45 5 v 52 xs ∧ RowsOk xs 52 ∧ Below w.heap.size w w' := by
  have HM := Lib.hid hM
  obtain ⟨i0, hi, hz0, hz1, hz2⟩ := info_parts' row_info
  have hi4 : (Tryz.prog.info? 116).map (·.size) = some 4 := by kernel_rfl
  obtain ⟨gm, om, cm, s0, s2, s3, s4⟩ := HM.out.h
  have HS4 := Lib.hid s4
  have HS0 := Lib.hid s0
  have s3' : cm ≤ 9223372036854775807 := s3
  clear s4 hM s0
  go_enter Tryz.func42, Tryz.ntmps42
  go_upto_region 3 with fail
  have HO : Hid ((w.alloc (.cells #[.string ⟨#[110, 117, 108, 108]⟩, .string ⟨#[110, 117, 108, 108]⟩, .string ⟨#[]⟩, .int .i64 0, .int .i64 0] 45)).ownsRow w.heap.size 45 5 (.slice (some ⟨w.heap.size, 0, none⟩) 1 1) 1 _) := Lib.hid (World.ownsRow_lit w #[.string ⟨#[110, 117, 108, 108]⟩, .string ⟨#[110, 117, 108, 108]⟩, .string ⟨#[]⟩, .int .i64 0, .int .i64 0] 1 (Nat.le_refl _) (by unfold maxLen; omega) rfl)
  have HO1 := Lib.hid (HO.out.alloc (.cells #[.string ⟨#[97, 101, 115, 49, 50, 56, 45]⟩, .string ⟨#[97, 101, 115, 49, 57, 50, 45]⟩, .string ⟨#[97, 101, 115, 50, 53, 54, 45]⟩] 9))
  have HB := Lib.hid (((Below.refl w.heap.size w).alloc (Nat.le_refl _) (.cells #[.string ⟨#[110, 117, 108, 108]⟩, .string ⟨#[110, 117, 108, 108]⟩, .string ⟨#[]⟩, .int .i64 0, .int .i64 0] 45)).alloc (by simp) (.cells #[.string ⟨#[97, 101, 115, 49, 50, 56, 45]⟩, .string ⟨#[97, 101, 115, 49, 57, 50, 45]⟩, .string ⟨#[97, 101, 115, 50, 53, 54, 45]⟩] 9))
  have HN : Hid (((w.alloc (.cells #[.string ⟨#[110, 117, 108, 108]⟩, .string ⟨#[110, 117, 108, 108]⟩, .string ⟨#[]⟩, .int .i64 0, .int .i64 0] 45)).alloc (.cells #[.string ⟨#[97, 101, 115, 49, 50, 56, 45]⟩, .string ⟨#[97, 101, 115, 49, 57, 50, 45]⟩, .string ⟨#[97, 101, 115, 50, 53, 54, 45]⟩] 9)).heap[w.heap.size + 1]? = some (.cells #[.string (pre 0), .string (pre 1), .string (pre 2)] 9 (0, 0))) := Lib.hid (by
    have := heap_alloc_new (w.alloc (.cells #[.string ⟨#[110, 117, 108, 108]⟩, .string ⟨#[110, 117, 108, 108]⟩, .string ⟨#[]⟩, .int .i64 0, .int .i64 0] 45)) (.cells #[.string ⟨#[97, 101, 115, 49, 50, 56, 45]⟩, .string ⟨#[97, 101, 115, 49, 57, 50, 45]⟩, .string ⟨#[97, 101, 115, 50, 53, 54, 45]⟩] 9)
    simp only [World.size_alloc] at this
    exact this)
  clear HO
  generalize (w.alloc (.cells #[.string ⟨#[110, 117, 108, 108]⟩, .string ⟨#[110, 117, 108, 108]⟩, .string ⟨#[]⟩, .int .i64 0, .int .i64 0] 45)).alloc (.cells #[.string ⟨#[97, 101, 115, 49, 50, 56, 45]⟩, .string ⟨#[97, 101, 115, 49, 57, 50, 45]⟩, .string ⟨#[97, 101, 115, 50, 53, 54, 45]⟩] 9) = w1 at *
  go_wp2
  go_loopw [3, 1] (fun i v wr => ∃ (k : Nat) (xs : List Value), k ≤ 3 ∧ i = .int .i64 k ∧ wr.ownsRow w.heap.size 45 5 v (1 + 17 * k) xs ∧ RowsOk xs (1 + 17 * k) ∧ wr.heap[w.heap.size + 1]? = some (.cells #[.string (pre 0), .string (pre 1), .string (pre 2)] 9 (0, 0)) ∧ Below w.heap.size w wr) (fun i _ _ => 3 - (RowKit.intOf i).toNat)
  case atStart => exact ⟨0, _, by omega, rfl, HO1.out, (fun t ht c hc => by
    have h0 : t = 0 := by omega
    subst h0
    match c, hc with
    | 0, _ => rfl
    | 1, _ => rfl
    | 2, _ => rfl
    | 3, _ => rfl
    | 4, _ => rfl), HN.out, HB.out⟩
  case round =>
    obtain ⟨k, xs, hk, rfl, hown, hrows, hn, hb⟩ := hrel
    have HO2 := Lib.hid hown
    have HR2 := Lib.hid hrows
    have HN2 := Lib.hid hn
    have HB2 := Lib.hid hb
    clear hown hrows hn hb HO1 HB HN
    by_cases hlt : k < 3
    · go_wp2
      go_loopw [5, 1] (fun i v wx => ∃ (j : Nat) (xs : List Value), j ≤ 17 ∧ i = .int .i64 j ∧ wx.ownsRow w.heap.size 45 5 v (1 + 17 * k + j) xs ∧ RowsOk xs (1 + 17 * k + j) ∧ wx.heap[w.heap.size + 1]? = some (.cells #[.string (pre 0), .string (pre 1), .string (pre 2)] 9 (0, 0)) ∧ Below w.heap.size w wx) (fun i _ _ => 17 - (RowKit.intOf i).toNat)
      case atStart => exact ⟨0, xs, by omega, rfl, HO2.out, HR2.out, HN2.out, HB2.out⟩
      case round =>
        obtain ⟨j, ys, hj, rfl, hown, hrows, hn, hb⟩ := hrel
        have HO3 := Lib.hid hown
        have HR3 := Lib.hid hrows
        have HO3L := Lib.hid hown.1
        have HN3 := Lib.hid hn
        have HB3 := Lib.hid hb
        have s1 := (HB3.out.cell (Frame.block_lt HS0.out)).trans HS0.out
        clear hown hrows hn hb HO2 HR2 HN2 HB2
        by_cases hlj : j < 17
        · obtain ⟨c0, c1, c2, c3⟩ := HS4.out j hlj
          obtain ⟨mlo, mhi⟩ := moT_bd j hlj
          have hsz : (if moT j < 0 then 2 * (16 + 8 * (k : Int)) else 16 + 8 * (k : Int) + moT j) = szT k j := rfl
          have RA := Lib.hid (rowL_at k j hlj)
          generalize szT k j = sz at *
          generalize moT j = mo at *
          generalize mdT j = md at *
          generalize stT j = st at *
          have HZ := Lib.hid hsz
          clear hsz
          have d0 := (HB3.out.cell (Frame.block_lt c0)).trans c0
          have d1 := (HB3.out.cell (Frame.block_lt c1)).trans c1
          have d2 := (HB3.out.cell (Frame.block_lt c2)).trans c2
          have d3 := (HB3.out.cell (Frame.block_lt c3)).trans c3
          clear c0 c1 c2 c3
          have HO4 := Lib.hid (HO3.out.alloc (.cells #[.string (nm j), .string md, .string st, .int .i64 mo] 116))
          have HB4 := Lib.hid (HB3.out.alloc HB3.out.size (.cells #[.string (nm j), .string md, .string st, .int .i64 mo] 116))
          have HS : Hid (RS (w.heap.size + 1) wr.heap.size j md st mo (wr.alloc (.cells #[.string (nm j), .string md, .string st, .int .i64 mo] 116))) := Lib.hid ⟨(heap_alloc_old wr _ (Array.getElem?_eq_some_iff.1 HN3.out).1).trans HN3.out, heap_alloc_new wr _⟩
          by_cases hmo : mo < 0
          all_goals
            go_upto_region 14 with fail
            clear d0 d1 d2 d3 s1 HO3 HB3 HN3
            generalize wr.alloc (.cells #[.string (nm j), .string md, .string st, .int .i64 mo] 116) = w4 at *
            generalize wr.heap.size = bm at *
            refine Step.begin_ (S := RS (w.heap.size + 1) bm j md st mo) 18 rfl (by kernel_rfl) ⟨HS.out.n, HS.out.m⟩ ?_
            intro hS
            have SX := Lib.hid hS
            clear hS
            simp only [hmo, if_true, if_false] at HZ
            refine Step.t_move (i := 0) rfl rfl (by kernel_rfl) (by kernel_rfl) (by kernel_rfl) SX.out _ rfl _ rfl ?_
            simp only [Act.put, sA9, sB9, sC9]
            refine Step.t_move (i := 1) rfl rfl (by kernel_rfl) (by kernel_rfl) (by kernel_rfl) SX.out _ rfl (.slice (some ⟨w.heap.size + 1, 0, none⟩) 3 3) rfl ?_
            simp only [Act.put, sA9, sB9, sC9]
            refine Step.t_move (i := 2) rfl rfl (by kernel_rfl) (by kernel_rfl) (by kernel_rfl) SX.out _ rfl (.int .i64 k) rfl ?_
            simp only [Act.put, sA9, sB9, sC9]
            refine Step.t_index (i := 3) rfl rfl (by kernel_rfl) (by kernel_rfl) (by kernel_rfl) SX.out _ _ _ _ rfl (w.heap.size + 1) 0 3 3 rfl k rfl hlt 1 Tryz.underlying50 (by kernel_rfl) ?_
            simp only [Act.put, sA9, sB9, sC9]
            refine t_load1 (i := 4) rfl rfl (by kernel_rfl) (by kernel_rfl) (by kernel_rfl) SX.out _ _ rfl (w.heap.size + 1) (0 + k * 1) rfl (.string (pre k)) (fun w' hw' => pre_cell hw'.n hlt) Tryz.underlying9 rfl ?_
            simp only [Act.put, sA9, sB9, sC9]
            refine t_field (i := 5) rfl rfl (by kernel_rfl) (by kernel_rfl) (by kernel_rfl) SX.out _ _ _ rfl bm 0 rfl Tryz.underlying116 rfl (sz := 1) (by kernel_rfl) (by decide) 0 rfl ?_
            simp only [Act.put, sA9, sB9, sC9]
            refine t_load1 (i := 6) rfl rfl (by kernel_rfl) (by kernel_rfl) (by kernel_rfl) SX.out _ _ rfl bm 0 rfl (.string (nm j)) (fun w' hw' => by rw [cell_of_row w' bm 0 _ _ _ hw'.m]; rfl) Tryz.underlying9 rfl ?_
            simp only [Act.put, sA9, sB9, sC9]
            refine t_add (i := 7) rfl rfl (by kernel_rfl) (by kernel_rfl) (by kernel_rfl) SX.out _ _ _ _ rfl (pre k) (nm j) rfl rfl (by have := pre_size k hlt; have := nm_size j hlj; omega) ?_
            simp only [Act.put, sA9, sB9, sC9]
            refine t_field (i := 8) rfl rfl (by kernel_rfl) (by kernel_rfl) (by kernel_rfl) SX.out _ _ _ rfl bm 0 rfl Tryz.underlying116 rfl (sz := 1) (by kernel_rfl) (by decide) 1 rfl ?_
            simp only [Act.put, sA9, sB9, sC9]
            refine t_load1 (i := 9) rfl rfl (by kernel_rfl) (by kernel_rfl) (by kernel_rfl) SX.out _ _ rfl bm 1 rfl (.string md) (fun w' hw' => by rw [cell_of_row w' bm 1 _ _ _ hw'.m]; rfl) Tryz.underlying9 rfl ?_
            simp only [Act.put, sA9, sB9, sC9]
            refine t_field (i := 10) rfl rfl (by kernel_rfl) (by kernel_rfl) (by kernel_rfl) SX.out _ _ _ rfl bm 0 rfl Tryz.underlying116 rfl (sz := 1) (by kernel_rfl) (by decide) 2 rfl ?_
            simp only [Act.put, sA9, sB9, sC9]
            refine t_load1 (i := 11) rfl rfl (by kernel_rfl) (by kernel_rfl) (by kernel_rfl) SX.out _ _ rfl bm 2 rfl (.string st) (fun w' hw' => by rw [cell_of_row w' bm 2 _ _ _ hw'.m]; rfl) Tryz.underlying9 rfl ?_
            simp only [Act.put, sA9, sB9, sC9]
            refine Step.t_move (i := 12) rfl rfl (by kernel_rfl) (by kernel_rfl) (by kernel_rfl) SX.out _ rfl (.int .i64 (16 + 8 * (k : Int))) rfl ?_
            simp only [Act.put, sA9, sB9, sC9]
            refine Step.t_move (i := 13) rfl rfl (by kernel_rfl) (by kernel_rfl) (by kernel_rfl) SX.out _ rfl (.int .i64 sz) (by rw [← HZ.out]; rfl) ?_
            simp only [Act.put, sA9, sB9, sC9]
            refine Step.t_val (i := 14) rfl rfl (by kernel_rfl) (by kernel_rfl) (by kernel_rfl) SX.out (.agg #[.string (pre k ++ nm j), .string md, .string st, .int .i64 (16 + 8 * (k : Int)), .int .i64 sz]) (fun w' _ => by unfold execOp; go_simp) ?_
            simp only [Act.put, sA9, sB9, sC9]
            refine Step.t_one (i := 15) rfl rfl (by kernel_rfl) ?_
            refine w_oneC _ _ _ rfl #[.string (pre k ++ nm j), .string md, .string st, .int .i64 (16 + 8 * (k : Int)), .int .i64 sz] (n := 5) rfl rfl Tryz.underlying81 (by kernel_rfl) (by kernel_rfl) (by decide) (by decide) ?_
            refine ⟨SX.out.alloc _, ?_⟩
            simp only [Act.put, sA9, sB9, sC9]
            have HO5 : Hid ((w4.drew.alloc (.cells #[.string (pre k ++ nm j), .string md, .string st, .int .i64 (16 + 8 * (k : Int)), .int .i64 sz] 45)).ownsRow w.heap.size 45 5 u1 (1 + 17 * k + j) ys) := Lib.hid (World.ownsRow.alloc (w := w4.drew) (HO4.out.drew) _)
            have HB5 : Hid (Below w.heap.size w (w4.drew.alloc (.cells #[.string (pre k ++ nm j), .string md, .string st, .int .i64 (16 + 8 * (k : Int)), .int .i64 sz] 45))) := Lib.hid (HB4.out.drew.alloc (by have := HB4.out.size; exact this) _)
            have SX5 := Lib.hid (SX.out.alloc (.cells #[.string (pre k ++ nm j), .string md, .string st, .int .i64 (16 + 8 * (k : Int)), .int .i64 sz] 45))
            refine Step.t_one (i := 16) rfl rfl (by kernel_rfl) ?_
            refine Step.w_append _ _ 81 rfl w.heap.size 45 i0 (.agg #[.string ⟨#[]⟩, .string ⟨#[]⟩, .string ⟨#[]⟩, .int .i64 0, .int .i64 0]) 5 64 Tryz.underlying81 hi hz0 hz1 hz2 rfl (by decide) u1 (1 + 17 * k + j) ys rfl HO5.out ⟨w4.drew.heap.size, 0, none⟩ 1 1 [.string (pre k ++ nm j), .string md, .string st, .int .i64 (16 + 8 * (k : Int)), .int .i64 sz] rfl rfl (five_new _ _ _) (by intro u hu; simp at hu; rcases hu with rfl | rfl | rfl | rfl | rfl <;> rfl) (by unfold maxLen; omega) (by omega) HB5.out.size ?_
            intro v' w5 hown hgrow _ _
            have S6 : RS (w.heap.size + 1) bm j md st mo w5 := ⟨(hgrow.block _ (Array.getElem?_eq_some_iff.1 SX5.out.n).1 (own_ne HO5.out SX5.out.n (by decide))).trans SX5.out.n, (hgrow.block _ (Array.getElem?_eq_some_iff.1 SX5.out.m).1 (own_ne HO5.out SX5.out.m (by decide))).trans SX5.out.m⟩
            have SX6 := Lib.hid S6
            rw [← RA.out] at hown
            have HO6 := Lib.hid hown
            have HB6 := Lib.hid (HB5.out.grown hgrow HB5.out.size (fun b hb => (HO5.out.lt b hb).1))
            refine ⟨S6, ?_⟩
            simp only [Act.put, sA9, sB9, sC9]
            clear S6 hown hgrow HO5 HB5 SX5 SX HO4 HB4 HS
            refine Step.t_assign (i := 17) rfl rfl (by kernel_rfl) (by kernel_rfl) (by kernel_rfl) SX6.out _ rfl v' rfl ?_
            simp only [Act.put, sA9, sB9, sC9]
            refine Step.t_end (by kernel_rfl) ?_
            go_wp2
            go_roundw
            case rel => exact ⟨j + 1, _, by omega, rfl, HO6.out, rows_succ HR3.out HO3L.out, SX6.out.n, HB6.out⟩
            case measure => simp [RowKit.intOf]; omega
        · obtain rfl : j = 17 := by omega
          clear s1
          have s1' := (HB3.out.cell (Frame.block_lt HS0.out)).trans HS0.out
          go_wp2
          go_roundw
          case rel => exact ⟨k + 1, ys, by omega, rfl, by rw [show 1 + 17 * (k + 1) = 1 + 17 * k + 17 by omega]; exact HO3.out, by rw [show 1 + 17 * (k + 1) = 1 + 17 * k + 17 by omega]; exact HR3.out, HN3.out, HB3.out⟩
          case measure => simp [RowKit.intOf]; omega
    · obtain rfl : k = 3 := by omega
      go_wp2
      go_ret
      exact ⟨_, _, rfl, HO2.out, HR2.out, HB2.out⟩
end Go.Proofs.YtmifebcaifbmoaaGreatDoor.Tab
end

/- Pick -/
section
namespace Go.Proofs.YtmifebcaifbmoaaGreatDoor.Tab
open Go.RowKit Go.Lib Go.Proofs.YtmifebcaifbmoaaGreatDoor.Byts

/-- the row that a number picks -/
def pk (z : Int) : Nat := (z % 18446744073709551616).toNat % 52
theorem pk_lt (z : Int) : pk z < 52 := Nat.mod_lt _ (by decide)
theorem rowL_form (t : Nat) : ∃ s1 s2 s3 z1 z2, rowL t = [.string s1, .string s2, .string s3, .int .i64 z1, .int .i64 z2] := by
  unfold rowL
  split
  · exact ⟨_, _, _, _, _, rfl⟩
  · exact ⟨_, _, _, _, _, rfl⟩
theorem num_any (z : Int) (w : World) : Calls Tryz.prog 15 #[.int .i64 z] w fun e w' => e = .returned (.int .i64 z) ∧ w = w' := by
  go_enter Tryz.func15, Tryz.ntmps15
  go_wp2
  go_ret
  exact ⟨rfl, rfl⟩
def pickV (z : Int) (q : Option Addr) (n cap : Nat) : Value := .agg #[.int .i64 z, .slice q n cap]

/-- a pick in its own block, and an empty row behind it -/
structure PkW (z : Int) (q : Option Addr) (n cap : Nat) (B : Nat) (w w' : World) : Prop where
  p : w'.heap[B]? = some (.cells #[.int .i64 z, .slice q n cap] 24 (0, 0))
  r : w'.heap[B + 1]? = some (.cells #[.string ⟨#[]⟩, .string ⟨#[]⟩, .string ⟨#[]⟩, .int .i64 0, .int .i64 0] 45 (0, 0))
  bel : Below B w w'
theorem PkW.next {z : Int} {q : Option Addr} {n cap B : Nat} {w w1 w2 : World} (h : PkW z q n cap B w w1) (hb : Below w1.heap.size w1 w2) : PkW z q n cap B w w2 :=
  ⟨(hb.block B (Array.getElem?_eq_some_iff.1 h.p).1).trans h.p, (hb.block (B + 1) (Array.getElem?_eq_some_iff.1 h.r).1).trans h.r, h.bel.trans (hb.mono (by have := (Array.getElem?_eq_some_iff.1 h.p).1; omega))⟩
theorem pkw_new (z : Int) (q : Option Addr) (n cap : Nat) (w : World) : PkW z q n cap w.heap.size w ((w.alloc (.cells #[.int .i64 z, .slice q n cap] 24)).alloc (.cells #[.string ⟨#[]⟩, .string ⟨#[]⟩, .string ⟨#[]⟩, .int .i64 0, .int .i64 0] 45)) :=
  ⟨(heap_alloc_old _ _ (by simp)).trans (heap_alloc_new w _), by
    have := heap_alloc_new (w.alloc (.cells #[.int .i64 z, .slice q n cap] 24)) (.cells #[.string ⟨#[]⟩, .string ⟨#[]⟩, .string ⟨#[]⟩, .int .i64 0, .int .i64 0] 45)
    simp only [World.size_alloc] at this
    exact this, ((Below.refl _ _).alloc (Nat.le_refl _) _).alloc (by simp) _⟩
theorem own_row {w : World} {B : Nat} {t : TypeId} {v : Value} {n : Nat} {xs : List Value} (h : w.ownsRow B t 5 v n xs) (hn : 0 < n) : ∃ g c, v = .slice (some ⟨g, 0, none⟩) n c ∧ B ≤ g ∧ n ≤ c ∧ c ≤ 9223372036854775807 ∧ ∀ j, j < n * 5 → w.cell? ⟨g, j, none⟩ = xs[j]? := by
  rcases h.2 with ⟨_, h'⟩ | ⟨g, c, cu, rfl, h1, hg, n1, m1, _⟩
  · omega
  · exact ⟨g, c, rfl, h1, n1, m1, fun j hj => h.cellAt j hj⟩

set_option maxRecDepth 100000 in
set_option maxHeartbeats 4000000 in
theorem row_any (z : Int) (_hz : IntKind.i64.has z) (q : Option Addr) (n cap : Nat) (w : World) (hM : Modes w) : Calls Tryz.prog 39 #[pickV z q n cap] w fun e w' => e = .returned (.agg (rowL (pk z)).toArray) ∧ Below w.heap.size w w' := by
  have HP := Lib.hid (pkw_new z q n cap w)
  have HR := Lib.hid (fun w (h : Modes w) => rows_any w h)
  have HM := Lib.hid hM
  clear hM
  unfold pickV
  go_enter Tryz.func39, Tryz.ntmps39
  go_upto_region 1 with fail
  generalize (w.alloc (.cells #[.int .i64 z, .slice q n cap] 24)).alloc (.cells #[.string ⟨#[]⟩, .string ⟨#[]⟩, .string ⟨#[]⟩, .int .i64 0, .int .i64 0] 45) = w1 at *
  go_upto_region 2 with (go_at_call 42; refine (HR.out _ (HM.out.below HP.out.bel)).mono ?_; rintro e w2 ⟨v, xs, rfl, hown, hrows, hb⟩)
  obtain ⟨g, c, rfl, hg1, hc1, hc2, hcell⟩ := own_row hown (by decide)
  have H2 := Lib.hid (HP.out.next hb)
  have HC : Hid (w2.rangeAt g (0 + pk z * 5) (rowL (pk z))) := Lib.hid fun j u hj => by
    have hj5 : j < 5 := by have := (List.getElem?_eq_some_iff.1 hj).1; rwa [rowL_len] at this
    have ht := pk_lt z
    rw [hcell _ (by omega), show 0 + pk z * 5 + j = 5 * pk z + j by omega, hrows _ ht j hj5, hj]
  clear hcell hown hrows hb HP HM HR
  have PL := pk_lt z
  have PE : Hid ((((z % 18446744073709551616).toNat % 52 : Nat) : Int) = (pk z : Nat)) := Lib.hid rfl
  obtain ⟨s1, s2, s3, z1, z2, hL⟩ := rowL_form (pk z)
  have HL := Lib.hid hL
  rw [hL] at HC
  clear hL
  generalize hpt : pk z = t at *
  have HPT := Lib.hid hpt
  clear hpt
  refine wp_region_lit ?_
  refine Step.p_move rfl _ rfl (.slice (some ⟨g, 0, none⟩) 52 c) rfl ?_
  simp only [Act.put, sA9, sB9, sC9]
  refine Tree.p_field rfl _ _ _ rfl (w.heap.size) (0) rfl Tryz.underlying24 rfl (sz := 1) (by kernel_rfl) (by decide) (0) rfl ?_
  simp only [Act.put, sA9, sB9, sC9]
  refine Tree.p_load1 rfl _ _ rfl (w.heap.size) (0) rfl (.int .i64 z) (by rw [cell_of_row w2 _ _ _ _ _ H2.out.p]; rfl) Tryz.underlying3 rfl ?_
  simp only [Act.put, sA9, sB9, sC9]
  refine Step.p_val rfl (.int .u64 (z % 18446744073709551616)) (by unfold execOp; go_simp; exact IntKind.wrap_u64 z) ?_
  simp only [Act.put, sA9, sB9, sC9]
  refine Step.p_move rfl _ rfl (.slice (some ⟨g, 0, none⟩) 52 c) rfl ?_
  simp only [Act.put, sA9, sB9, sC9]
  refine Step.p_len rfl _ _ 45 rfl (_) (52) (c) rfl Tryz.underlying81 ?_
  simp only [Act.put, sA9, sB9, sC9]
  refine Step.p_val rfl (.int .u64 52) (by unfold execOp; go_simp; try rfl) ?_
  simp only [Act.put, sA9, sB9, sC9]
  refine Step.p_val rfl (.int .u64 (t : Nat)) (by unfold execOp; go_simp; rw [← PE.out, Int.tmod_eq_emod_of_nonneg (by omega)]; omega) ?_
  simp only [Act.put, sA9, sB9, sC9]
  refine Step.p_val rfl (.int .i64 (t : Nat)) (by unfold execOp; go_simp; try exact IntWalk.i64_in _ (by omega)) ?_
  simp only [Act.put, sA9, sB9, sC9]
  refine Step.p_index rfl _ 45 _ _ rfl g 0 52 c rfl t rfl PL 5 Tryz.underlying81 (by kernel_rfl) ?_
  simp only [Act.put, sA9, sB9, sC9]
  refine Tree.p_loadmid rfl _ _ rfl (g) (0 + t * 5) rfl [.string s1, .string s2, .string s3, .int .i64 z1, .int .i64 z2] (HC.out) Tryz.underlying45 rfl (by kernel_rfl) ?_
  simp only [Act.put, sA9, sB9, sC9]
  refine Cell.p_storerow rfl 45 _ _ rfl (w.heap.size + 1) rfl _ rfl (by kernel_rfl) (by simp [Value.oneCell']) H2.out.r rfl ?_
  intro w3 hr3 hg3 _
  simp only [Act.put]
  refine wpList_nil ?_
  have B3 := Lib.hid (H2.out.bel.grown hg3 H2.out.bel.size (fun j hj => by cases hj; exact Nat.le_succ _))
  clear hg3
  go_wp2
  exact Cell.ret_row rfl rfl hr3 Tryz.underlying45 rfl (by kernel_rfl) rfl ⟨by rw [HPT.out, HL.out], B3.out⟩
end Go.Proofs.YtmifebcaifbmoaaGreatDoor.Tab
end
