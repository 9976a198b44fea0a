/- slices.AppendSeq and slices.Collect over an iterator of segments; rekey.segments. -/
import Derived.Test.YtfchbodbkdkcfaaDoorCollect
namespace Go.Proofs.YtfchbodbkdkcfaaDoor.Coll
open Go.RowKit Go.Shelf
attribute [local go_sem] Oper.semAt_some

theorem sg_new (w : World) (x : Sg) (t : TypeId) : ∀ j u, (sgC x)[j]? = some u → (w.alloc (.cells #[.int .u64 x.1, .int .u64 x.2.1, .int .u64 x.2.2] t)).cell? ((⟨w.heap.size, 0, none⟩ : Addr).add j) = some u := by
  intro j u hj
  match j, hj with
  | 0, hj => simp [sgC] at hj; subst hj; simp [Addr.add]
  | 1, hj => simp [sgC] at hj; subst hj; simp [Addr.add]
  | 2, hj => simp [sgC] at hj; subst hj; simp [Addr.add]
  | j + 3, hj => simp [sgC] at hj
theorem sg_one (x : Sg) : ∀ u ∈ sgC x, u.oneCell' = true := by
  intro u hu
  simp only [sgC, List.mem_cons, List.mem_nil_iff, or_false] at hu
  rcases hu with rfl | rfl | rfl <;> rfl
theorem sg_info : (Tryd.prog.info? 92).map (fun i => (i.zero, i.size, i.bytes)) = some (some (.agg #[.int .u64 0, .int .u64 0, .int .u64 0]), 3, 24) := by kernel_rfl

set_option maxRecDepth 100000 in
set_option maxHeartbeats 4000000 in
/-- slices.AppendSeq onto nil, of whatever iterator of segments -/
theorem appendSeq_in (F : Fence) (n : Nat) (h11 : F.fn 91) (hro : F.round = none) (hn : 2 ≤ n) (g : Nat) (lb : Array Value) (hFg : F.fn g) (eg : ∀ args w, (callFunc g args).run Tryd.prog w = .ok (.enter g args) w)
    (S Sp : List Sg → Prop) (w : World) (hseq : SeqStopsK F (n - 1) Tryd.prog g lb (fun x : Sg => #[.agg #[.int .u64 x.1, .int .u64 x.2.1, .int .u64 x.2.2]]) (Below w.heap.size) S Sp 2 w) :
    CallsIn F n Tryd.prog 91 #[.slice none 0 0, .func (.func g) #[] lb] w fun e w' => ∃ (v : Value) (ss : List Sg), e = .returned v ∧ S ss ∧ w'.ownsRow w.heap.size 92 3 v ss.length (sgL ss) ∧ (v = .slice none 0 0 ↔ ss = []) ∧ Below w.heap.size w w' := by
  have h1 : 1 ≤ n := by omega
  obtain ⟨i0, hi, hz0, hz1, hz2⟩ := info_parts sg_info
  refine callsIn_of_wp_marks Tryd.func91 rfl h11 ?_ hro
  simp only [Tryd.ntmps91, List.size_toArray, List.length_cons, List.length_nil, Nat.reduceAdd, Nat.reduceSub, Array.replicate_succ, Array.replicate_zero, List.push_toArray, List.append_toArray, List.nil_append, List.cons_append]
  gi_wp2
  have bS := Boxed.new w 49 (.slice none 0 0)
  have hB0 : Below w.heap.size w (w.alloc (.cells #[.slice none 0 0] 49)) := (Below.refl _ w).alloc (Nat.le_refl _) _
  have hsz : (w.alloc (.cells #[.slice none 0 0] 49)).heap.size = w.heap.size + 1 := by simp
  obtain ⟨W0, hW0⟩ : ∃ W0, w.alloc (.cells #[.slice none 0 0] 49) = W0 := ⟨_, rfl⟩
  rw [hW0] at bS hB0 hsz ⊢
  clear hW0
  refine wpIn_rangeFunc_ownH hro h1 (gf := g) (lb := lb) rfl hFg eg hseq belowK_t (belowK_b (by omega)) hB0 (fun _ => rfl)
    (fun pre W => (∃ v, Boxed W w.heap.size 49 v ∧ W.ownsRow w.heap.size 92 3 v pre.length (sgL pre) ∧ (v = .slice none 0 0 ↔ pre = [])) ∧ Below w.heap.size w W)
    (fun _ _ _ => False)
    (OwnFrom.and (Own.from (holdsRow_own w.heap.size w.heap.size 49 92 3 (fun pre : List Sg => pre.length) (fun pre => sgL pre) (fun pre v => (v = .slice none 0 0 ↔ pre = []))) _) (ownFrom_below (Nat.le_refl _) (by omega)))
    (fun _ _ _ _ _ hs _ _ => hs)
    ⟨⟨_, bS, World.ownsRow_nil _ _ _ _, by simp⟩, hB0⟩
    (fun x a' W => ∃ Bx, w.heap.size < Bx ∧ W.heap[Bx]? = some (.cells #[.int .u64 x.1, .int .u64 x.2.1, .int .u64 x.2.2] 92 (0, 0)) ∧
      a' = { tmps := #[.slice none 0 0, .func (.func g) #[] lb, .pointer (some ⟨w.heap.size, 0, none⟩), undef, .slice none 0 0, .pointer (some ⟨Bx, 0, none⟩), .func (.func g) #[] lb, .agg #[.int .u64 x.1, .int .u64 x.2.1, .int .u64 x.2.2], undef, undef, undef, undef, undef], defers := [] })
    (fun x a' _ X Y row hs hg hr => by
      obtain ⟨Bx, q1, q2, q3⟩ := hs
      refine ⟨Bx, q1, (hg.block Bx (Array.getElem?_eq_some_iff.1 q2).1 (fun e => ?_)).trans q2, q3⟩
      obtain ⟨_, o, ho, hc⟩ := hr Bx e.symm
      rw [q2] at ho; cases ho; cases hc)
    ?assign ?body ?done ?stop
  case assign =>
    rintro l pre x W K ⟨⟨v, hv, hrow, hnil⟩, hB⟩ hK
    gi_wp2
    exact hK _ _ ((KeepsOthers.alloc _ _).from _) ((Below.refl _ W).alloc hB.size _) ⟨⟨v, hv.alloc _, hrow.alloc _, hnil⟩, hB.alloc hB.size _⟩ ⟨W.heap.size, hv.lt, World.alloc_heap_new W _, rfl⟩
  case body =>
    rintro l pre x a' W hl ⟨r, hr⟩ ⟨⟨v, hv, hrow, hnil⟩, hB⟩ ⟨Bx, hBx, hX, rfl⟩ hlt
    have hc := hv.cell
    have k0 := cell_of_row W Bx 0 _ _ _ hX
    have k1 := cell_of_row W Bx 1 _ _ _ hX
    have k2 := cell_of_row W Bx 2 _ _ _ hX
    simp at k0 k1 k2
    gi_wp2_with (first
      | (gi_at_builtin; refine wpListIn_append_own _ rfl _ _ 49 rfl w.heap.size 92 i0 (.agg #[.int .u64 0, .int .u64 0, .int .u64 0]) 3 24 Tryd.underlying49 hi hz0 hz1 hz2 rfl (by decide) _ _ _ rfl (hrow.alloc _) ⟨W.heap.size, 0, none⟩ 1 1 (sgC x) rfl rfl (sg_new W x _) (sg_one x) (by unfold maxLen; omega) (by omega) (by have := hB.size; simp; omega) ?_
         intro v' w1 hown' hgrow _
         obtain ⟨g', cap', rfl⟩ := ownsRow_succ hown'
         obtain ⟨hv1, hv2, hr2, hk2, hb2⟩ := hv.appended (by decide) hrow hB.size (Nat.le_refl _) hown' hgrow
         have hc1 := hv1.cell
         have hf1 := hv1.frozen)
      | fail)
    exact ⟨hk2.from _, hb2, ⟨⟨_, hv2, by rw [List.length_append, sgL_snoc]; exact hr2, by simp⟩, hB.trans hb2⟩⟩
  case done =>
    rintro D ys W hD hS ⟨⟨v, hv, hrow, hnil⟩, hB⟩ hK
    have hc := hv.cell
    gi_wp2
    refine ⟨by simp, .inl ⟨_, _, rfl, run_takeDeferred hK, ?_⟩⟩
    exact ⟨_, results_tmp rfl _ _ _, v, ys, rfl, hS, ownsRow_putObj hrow _ hK rfl, hnil, hB.trans (belowK_b (w := w) (Nat.le_refl _) W D _ _ (by omega) hK rfl rfl)⟩
  case stop =>
    rintro D c pre W _ _ h _
    exact h.elim

set_option maxHeartbeats 1000000 in
/-- slices.Collect, of whatever iterator of segments -/
theorem collect_in (F : Fence) (n : Nat) (h8 : F.fn 65) (h11 : F.fn 91) (hro : F.round = none) (hn : 3 ≤ n) (g : Nat) (lb : Array Value) (hFg : F.fn g) (eg : ∀ args w, (callFunc g args).run Tryd.prog w = .ok (.enter g args) w)
    (S Sp : List Sg → Prop) (w : World) (hseq : SeqStopsK F (n - 1 - 1) Tryd.prog g lb (fun x : Sg => #[.agg #[.int .u64 x.1, .int .u64 x.2.1, .int .u64 x.2.2]]) (Below w.heap.size) S Sp 2 w) :
    CallsIn F n Tryd.prog 65 #[.func (.func g) #[] lb] w fun e w' => ∃ (v : Value) (ss : List Sg), e = .returned v ∧ S ss ∧ w'.ownsRow w.heap.size 92 3 v ss.length (sgL ss) ∧ (v = .slice none 0 0 ↔ ss = []) ∧ Below w.heap.size w w' := by
  have h1 : 1 ≤ n := by omega
  refine callsIn_of_wp Tryd.func65 rfl h8 ?_ hro
  simp only [Tryd.ntmps65, List.size_toArray, List.length_cons, List.length_nil, Nat.reduceAdd, Nat.reduceSub, Array.replicate_succ, Array.replicate_zero, List.push_toArray, List.append_toArray, List.nil_append, List.cons_append]
  gi_wp2_with (gi_at_call 91; refine (appendSeq_in F (n - 1) h11 hro (by omega) g lb hFg eg S Sp _ hseq).mono ?_; rintro e w' ⟨v, ss, rfl, hS, hrow, hnil, hb⟩)
  go_ret
  exact ⟨v, ss, rfl, hS, hrow, hnil, hb⟩

/-- slices.Collect of the iterator over a rotation's segments -/
theorem collect_segs (b1 b2 b3 b4 : Nat) (cut low N high : Int) (hcut : 0 ≤ cut) (hN : 0 ≤ N) (hc64 : cut < 18446744073709551616) (hN64 : N < 18446744073709551616)
    (w : World) (k1 : w.cell? ⟨b1, 0, none⟩ = some (.int .u64 cut)) (k2 : w.cell? ⟨b2, 0, none⟩ = some (.int .u64 low)) (k3 : w.cell? ⟨b3, 0, none⟩ = some (.int .u64 N)) (k4 : w.cell? ⟨b4, 0, none⟩ = some (.int .u64 high)) :
    Calls Tryd.prog 65 #[.func (.func 92) #[] #[.pointer (some ⟨b1, 0, none⟩), .pointer (some ⟨b2, 0, none⟩), .pointer (some ⟨b3, 0, none⟩), .pointer (some ⟨b4, 0, none⟩)]] w fun e w' =>
      ∃ v, e = .returned v ∧ w'.ownsRow w.heap.size 92 3 v (segsOf cut low N high).length (sgL (segsOf cut low N high)) ∧ Below w.heap.size w w' :=
  (callsIn_wide.1 (collect_in Fence.wide 3 trivial trivial rfl (Nat.le_refl _) 92 _ trivial (enters_of Tryd.func92 (by kernel_rfl) rfl) _ _ w
    (iter_stops Fence.wide 1 trivial rfl (Nat.le_refl _) w.heap.size b1 b2 b3 b4 cut low N high (Frame.block_lt k1) (Frame.block_lt k2) (Frame.block_lt k3) (Frame.block_lt k4) hcut hN hc64 hN64 w (Nat.le_refl _) k1 k2 k3 k4))).mono fun e w' h => by
    obtain ⟨v, ss, he, rfl, hr, _, hb⟩ := h
    exact ⟨v, he, hr, hb⟩

/-- a rotation -/
structure Rot where
  on : Bool
  fr : Int
  tn : Int
  back : Bool
  mode : Int
  hot : Int
  done : Int
  off : Int
  size : Int
  active : Bool
  count : Int
  sum : ByteArray
def rotC (r : Rot) : Array Value := #[.bool r.on, .int .u64 r.fr, .int .u64 r.tn, .bool r.back, .int .i64 r.mode, .int .u64 r.hot, .int .u64 r.done, .int .i64 r.off, .int .i64 r.size, .bool r.active, .int .u64 r.count, .string r.sum]
def rotV (r : Rot) : Value := .agg (rotC r)
end Go.Proofs.YtfchbodbkdkcfaaDoor.Coll
