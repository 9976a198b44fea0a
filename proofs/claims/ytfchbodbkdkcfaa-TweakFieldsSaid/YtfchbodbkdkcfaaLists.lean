/- Lists of blocks: slices that are made, appended to, hashed. -/
import Derived.Test.YtfchbodbkdkcfaaPolyval
import Derived.Test.YtfchbodbkdkcfaaEq
import Derived.Test.YtfchbodbkdkcfaaOpenB
import Derived.Test.YtfchbodbkdkcfaaAlg
import Derived.Great.BuildSlice
import Derived.Maps.AppendAt
import Derived.Deep.Cut
import Derived.Deep.CutRange
namespace Go.Proofs.Ytfchbodbkdkcfaa.Lists
open Go.RowKit Go.Lib
open Go.Proofs.Ytfchbodbkdkcfaa.Blk Go.Proofs.Ytfchbodbkdkcfaa.Poly Go.Proofs.Ytfchbodbkdkcfaa.Field Go.Proofs.Ytfchbodbkdkcfaa.Polyval

section
variable {P : Program}
/-- a list of one array is made -/
theorem wpList_one {ops : Array Oper} {rest : List Oper} {o : Oper} {a : Act} {w : World} {Q : Exit → Act → World → Prop} (hg : o.guard = none) (t e : TypeId) (x : Operand) (ho : o.op = .buildSlice t 1 #[(0, x)])
    {k : IntKind} {n : Nat} {f : Nat → Int} (hx : a.eval x = .agg (arr k n f)) (hu : P.underlying t = some (.slice e)) (hi : (P.info? e).map (·.size) = some n) (hz : ((P.info? e).bind (·.zero)).isSome = true) (hn : 0 < n) (hn2 : n ≤ 2 ^ 24)
    (h : wpList P ops Q rest (a.put o.dst (.slice (some ⟨w.heap.size, 0, none⟩) 1 1)) (w.alloc (.cells (arr k n f) e))) : wpList P ops Q (o :: rest) a w := by
  cases hie : P.info? e with
  | none => simp [hie] at hi
  | some ie =>
    simp only [hie, Option.map_some, Option.some.injEq, Option.bind_some] at hi hz
    obtain ⟨z, hzz⟩ := Option.isSome_iff_exists.1 hz
    refine wpList_buildSlice hg t e 1 _ ho _ ie z hu hie hzz (by rw [hi]; omega) (by rw [hi]; omega) ?_ h
    simp only [List.map_toArray, List.map_cons, List.map_nil, hx, hi]
    have := Great.fill_whole (s := n) hn [.agg (arr k n f)] ((Array.range (1 * n)).map (z.cells[· % z.cells.size]!)) (fun v hv => by simp only [List.mem_singleton] at hv; subst hv; simp [Value.cells, arr_size]) (by simp)
    simpa [Value.cells] using this
end

/-- the cells of a list of blocks -/
def flat (ns : List Nat) : List Value := ns.flatMap fun n => (arr .u8 16 fun i => (byt n i : Int)).toList
theorem flat_length : ∀ ns : List Nat, (flat ns).length = ns.length * 16
  | [] => rfl
  | n :: r => by
    have := flat_length r
    simp only [flat, List.flatMap_cons, List.length_append, Array.length_toList, arr_size, List.length_cons] at this ⊢
    omega
theorem flat_get : ∀ (ns : List Nat) (i j : Nat), i < ns.length → j < 16 → (flat ns)[i * 16 + j]? = some (.int .u8 (byt (ns.getD i 0) j))
  | [], _, _, h, _ => by simp at h
  | n :: r, 0, j, _, hj => by
    simp only [flat, List.flatMap_cons, Nat.zero_mul, Nat.zero_add]
    rw [List.getElem?_append_left (by simp [arr]; omega), Array.getElem?_toList, arr_get _ _ _ _ hj]
    simp
  | n :: r, i + 1, j, h, hj => by
    have ih := flat_get r i j (by simpa using h) hj
    simp only [flat, List.flatMap_cons]
    rw [List.getElem?_append_right (by simp [arr]; omega)]
    simp only [Array.length_toList, arr_size]
    rw [show (i + 1) * 16 + j - 16 = i * 16 + j by omega]
    simpa [flat] using ih
theorem flat_snoc (ns : List Nat) (n : Nat) : flat (ns ++ [n]) = flat ns ++ (arr .u8 16 fun i => (byt n i : Int)).toList := by simp [flat]

/-- what lies behind a slice of blocks -/
def SL (w : World) (p : Option Addr) (ns : List Nat) : Prop := (p = none ∧ ns = []) ∨ ∃ b off, p = some ⟨b, off, none⟩ ∧ b < w.heap.size ∧ Blks w b off ns
theorem SL.below {w w' : World} {p : Option Addr} {ns : List Nat} {B : Nat} (h : SL w p ns) (hb : Below B w w') (hB : ∀ a, p = some a → a.block < B) : SL w' p ns := by
  rcases h with h | ⟨b, off, rfl, h1, h2⟩
  · exact .inl h
  · refine .inr ⟨b, off, rfl, Nat.lt_of_lt_of_le h1 hb.size, fun i hi j v hv => ?_⟩
    rw [hb.cell (p := ⟨b, off + i * 16 + j, none⟩) (hB ⟨b, off, none⟩ rfl)]
    exact h2 i hi j v hv
theorem SL.keep {w w' : World} {p : Option Addr} {ns : List Nat} (h : SL w p ns) (hb : Below w.heap.size w w') : SL w' p ns :=
  h.below hb fun a ha => by
    rcases h with ⟨h1, _⟩ | ⟨b, off, h1, h2, _⟩
    · rw [h1] at ha; cases ha
    · rw [h1] at ha; cases ha; exact h2
theorem SL.take {w : World} {p : Option Addr} {ns : List Nat} (h : SL w p ns) (k : Nat) : SL w p (ns.take k) := by
  rcases h with ⟨h1, rfl⟩ | ⟨b, off, rfl, h1, h2⟩
  · exact .inl ⟨h1, by simp⟩
  · refine .inr ⟨b, off, rfl, h1, fun i hi => ?_⟩
    simp only [List.length_take] at hi
    have := h2 i (by omega)
    rw [show (ns.take k).getD i 0 = ns.getD i 0 by simp [List.getD_eq_getElem?_getD, show i < k by omega]]
    exact this
/-- a list of the call's own -/
theorem SL.own {w : World} {base : Nat} {e : TypeId} {v : Value} {n : Nat} {ns : List Nat} (h : w.ownsRow base e 16 v n (flat ns)) : ∃ p cap, v = .slice p ns.length cap ∧ n = ns.length ∧ SL w p ns := by
  have hl := h.1
  rw [flat_length] at hl
  have hn : n = ns.length := by omega
  subst hn
  rcases h.2 with ⟨rfl, h0⟩ | ⟨g, cap, cur, rfl, _, hgg, _, _, _, _⟩
  · exact ⟨none, 0, by rw [h0], rfl, .inl ⟨rfl, List.length_eq_zero_iff.1 h0⟩⟩
  · refine ⟨_, cap, rfl, rfl, .inr ⟨g, 0, rfl, ?_, fun i hi j v hv => ?_⟩⟩
    · rcases Nat.lt_or_ge g w.heap.size with h' | h'
      · exact h'
      · rw [Array.getElem?_eq_none h'] at hgg; cases hgg
    · have hj : j < 16 := by
        have := (List.getElem?_eq_some_iff.1 hv).1
        simpa [arr] using this
      rw [Array.getElem?_toList, arr_get _ _ _ _ hj] at hv
      have := h.cells (g := g) rfl (i * 16 + j) _ (flat_get ns i j hi hj)
      rw [Addr.add_mid] at this
      rw [Nat.zero_add, ← Option.some.inj hv]
      simpa using this

set_option maxRecDepth 100000 in
set_option maxHeartbeats 400000 in
theorem polyval_nil (h : Nat) (cap : Nat) (w : World) :
    Calls Try.prog 18 #[B16 h, .slice none 0 cap] w fun e w' => e = .returned (B16 0) ∧ Below w.heap.size w w' := by
  have H0 := three_of (fun i => (byt h i : Int)) (fun _ => 0) w
  rw [zero16] at H0
  have H1 : Hid (PolRel h 0 w.heap.size w _) := Lib.hid ⟨H0.a, H0.b, H0.c.congr (fun i _ => by simp [byt]), H0.bel⟩
  clear H0
  go_enter Try.func18, Try.ntmps18
  go_wp2
  go_loopw [10] (fun i wr => i = .int .i64 0 ∧ PolRel h 0 w.heap.size w wr) (fun _ _ => 0)
  case atStart => exact ⟨rfl, H1.out⟩
  case round =>
    obtain ⟨rfl, hr⟩ := hrel
    have HR := Lib.hid hr
    clear hr
    go_wp2_with (first | (refine wpList_load_arr rfl 48 _ rfl _ rfl HR.out.c Try.underlying48 rfl info16 ?_) | (refine wpList_store_arr rfl 48 _ _ rfl _ rfl rfl HR.out.b info16 ?_; intro w4 hA hG hS))
    exact ret_arr rfl rfl hA Try.underlying48 rfl info16 rfl ⟨rfl, HR.out.bel.grown hG HR.out.bel.size (by intro j hj; cases hj; omega)⟩

theorem polyval_sl (h : Nat) (ns : List Nat) (p : Option Addr) (cap : Nat) (w : World) (hns : ∀ n ∈ ns, n < 2 ^ 128) (hsl : SL w p ns) (hlen : ns.length < 1000000) :
    Calls Try.prog 18 #[B16 h, .slice p ns.length cap] w fun e w' => e = .returned (B16 (polyN h ns)) ∧ Below w.heap.size w w' := by
  rcases hsl with ⟨rfl, rfl⟩ | ⟨b, off, rfl, hb, hbl⟩
  · exact polyval_nil h cap w
  · exact polyval_any h ns b off cap w hns hbl hb hlen
theorem polyN_bound (h : Nat) (ns : List Nat) (hns : ∀ n ∈ ns, n < 2 ^ 128) : polyN h ns < 2 ^ 128 := polyN_lt h ns 0 (by decide) hns
theorem polyN_append (h : Nat) (ns : List Nat) (a : Nat) : polyN h (ns ++ [a]) = dotN (polyN h ns ^^^ a) h 128 := by simp [polyN, List.foldl_append]
theorem fold_adds (h b : Nat) (hb : b < 2 ^ 128) : ∀ (ns : List Nat) (s t : Nat), s < 2 ^ 128 → t < 2 ^ 128 → (∀ n ∈ ns, n < 2 ^ 128) →
    (ns.map (· ^^^ b)).foldl (fun s n => dotN (s ^^^ n) h 128) (s ^^^ t) = ns.foldl (fun s n => dotN (s ^^^ n) h 128) s ^^^ (List.replicate ns.length b).foldl (fun s n => dotN (s ^^^ n) h 128) t
  | [], _, _, _, _, _ => rfl
  | n :: r, s, t, hs, ht, hn => by
    have h1 := hn n (List.mem_cons_self ..)
    have e : dotN ((s ^^^ t) ^^^ (n ^^^ b)) h 128 = dotN (s ^^^ n) h 128 ^^^ dotN (t ^^^ b) h 128 := by
      rw [← Alg.dot_left _ _ _ (Nat.xor_lt_two_pow hs h1) (Nat.xor_lt_two_pow ht hb)]
      congr 1
      ac_rfl
    simp only [List.map_cons, List.foldl_cons, List.length_cons, List.replicate_succ]
    rw [e]
    exact fold_adds h b hb r _ _ (dotN_lt _ _ (Nat.xor_lt_two_pow hs h1) _) (dotN_lt _ _ (Nat.xor_lt_two_pow ht hb) _) (fun x hx => hn x (List.mem_cons_of_mem _ hx))
theorem polyN_adds (h b : Nat) (hb : b < 2 ^ 128) (ns : List Nat) (hns : ∀ n ∈ ns, n < 2 ^ 128) : polyN h (ns.map (· ^^^ b)) = polyN h ns ^^^ polyN h (List.replicate ns.length b) := by
  have := fold_adds h b hb ns 0 0 (by decide) (by decide) hns
  simpa [polyN] using this
/-- the type of blocks -/
theorem info_block : ∃ I Z, Try.prog.info? 48 = some I ∧ I.zero = some Z ∧ I.size = 16 ∧ I.bytes = 16 ∧ Z.cells.size = 16 := by
  have h : (Try.prog.info? 48).map (fun i => (i.size, i.bytes, i.zero.map (·.cells.size))) = some (16, 16, some 16) := by kernel_rfl
  cases hi : Try.prog.info? 48 with
  | none => simp [hi] at h
  | some I =>
    simp only [hi, Option.map_some, Option.some.injEq, Prod.mk.injEq] at h
    cases hz : I.zero with
    | none => simp [hz] at h
    | some Z => exact ⟨I, Z, rfl, hz, h.1, h.2.1, by simpa [hz] using h.2.2⟩
theorem flat_take (ns : List Nat) (k : Nat) (hk : k < ns.length) : flat (ns.take (k + 1)) = flat (ns.take k) ++ (arr .u8 16 fun i => (byt (ns.getD k 0) i : Int)).toList := by
  rw [List.take_add_one, List.getElem?_eq_getElem hk, show ns.getD k 0 = ns[k] by simp [hk]]
  exact flat_snoc _ _
theorem flat_take_map (f : Nat → Nat) (ns : List Nat) (k : Nat) (hk : k < ns.length) : flat ((ns.take (k + 1)).map f) = flat ((ns.take k).map f) ++ (arr .u8 16 fun i => (byt (f (ns.getD k 0)) i : Int)).toList := by
  rw [List.take_add_one, List.getElem?_eq_getElem hk, show ns.getD k 0 = ns[k] by simp [hk], List.map_append]
  exact flat_snoc _ _
theorem arr_news {w : World} {b : Nat} {t : TypeId} {f : Nat → Int} (h : Arr w b .u8 16 t f) : ∀ j u, (arr .u8 16 f).toList[j]? = some u → w.cell? ((⟨b, 0, none⟩ : Addr).add j) = some u := fun j u hu => by
  rw [Addr.add_mid, cell_of_row w b _ _ _ _ h]
  simpa using hu
theorem arr_one16 (f : Nat → Int) : ∀ u ∈ (arr .u8 16 f).toList, u.oneCell' = true := fun u hu => (Array.all_eq_true_iff_forall_mem.1 (arr_one .u8 16 f)) u (by simpa using hu)
end Go.Proofs.Ytfchbodbkdkcfaa.Lists
