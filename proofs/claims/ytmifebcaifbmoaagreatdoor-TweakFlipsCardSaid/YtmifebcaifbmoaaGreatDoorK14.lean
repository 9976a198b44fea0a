/- Parts of the proof of TweakFlips. Kin: tweak.kinds: the modes, in full. Find: tweak.find: the mode of a name. Find2: tweak.find: a name's mode and the bytes of its key. NewLrw: tweak.New: a cipher of LRW. May: tweak: whether a sector may be asked for; a list cloned. Clone: slices.Clone at bytes. Run: tweak.asLRW's function: a sector sealed or opened, block by block. -/
import Derived.Test.YtmifebcaifbmoaaGreatDoorK13
import Derived.Test.YtmifebcaifbmoaaGreatDoorK12
import Derived.Lib.Agree
import Derived.Test.YtmifebcaifbmoaaGreatDoorK04
import Derived.Ground.NamesProg
import Derived.Shelf.Small.Wraps
import Derived.Laws.AppendOwn
/- Kin -/
section
namespace Go.Proofs.YtmifebcaifbmoaaGreatDoor.Tab
open Go.RowKit Go.Lib

theorem digestPart_any (fn : Fn) (f1 f2 : Array Value) (w : World) : Calls Tryz.prog 72 #[.func fn f1 f2] w fun e w' => e = .returned (.func (.func 116) #[] #[.pointer (some ⟨w.heap.size, 0, none⟩)]) ∧ w'.heap[w.heap.size]? = some (.cells #[.func fn f1 f2] 91 (0, 0)) ∧ Below w.heap.size w w' := by
  have hmf : ∀ (fn : Fn) (first cap : Array Value) (w : World), (Instr.makeFunc fn first cap).run Tryz.prog w = .ok (.func fn first cap) w := fun _ _ _ _ => by simp [Instr.makeFunc]
  have HB := Lib.hid ((Below.refl w.heap.size w).alloc (Nat.le_refl _) (.cells #[.func fn f1 f2] 91))
  have HN := Lib.hid (heap_alloc_new w (.cells #[.func fn f1 f2] 91))
  go_enter Tryz.func72, Tryz.ntmps72
  go_wp2
  go_ret
  exact ⟨rfl, HN.out, HB.out⟩

/-- a function's value -/
def fv (n : Nat) : Value := .func (.func n) #[] #[]
/-- mode k of the program, its seven parts; d: where digestPart keeps its first -/
def kindL (d k : Nat) : List Value :=
  ([[.string (nm 0), .bool false, .int .i64 0, .nilFunc, fv 63, fv 64, .bool false],
    [.string (nm 1), .bool false, .int .i64 0, fv 65, fv 66, fv 64, .bool false],
    [.string (nm 2), .bool false, .int .i64 0, fv 67, fv 66, fv 64, .bool false],
    [.string (nm 3), .bool false, .int .i64 0, fv 68, fv 66, fv 64, .bool false],
    [.string (nm 4), .bool false, .int .i64 0, fv 69, fv 66, fv 64, .bool false],
    [.string (nm 5), .bool false, .int .i64 0, fv 70, fv 66, fv 64, .bool false],
    [.string (nm 6), .bool false, .int .i64 0, fv 71, fv 66, .func (.func 116) #[] #[.pointer (some ⟨d, 0, none⟩)], .bool false],
    [.string (nm 7), .bool false, .int .i64 0, fv 73, fv 66, fv 64, .bool false],
    [.string (nm 8), .bool true, .int .i64 0, fv 73, fv 74, fv 75, .bool false],
    [.string (nm 9), .bool false, .int .i64 32, fv 76, fv 77, fv 78, .bool false],
    [.string (nm 10), .bool true, .int .i64 0, fv 67, fv 79, fv 75, .bool true],
    [.string (nm 11), .bool true, .int .i64 0, fv 68, fv 79, fv 75, .bool true],
    [.string (nm 12), .bool true, .int .i64 0, fv 69, fv 79, fv 75, .bool true],
    [.string (nm 13), .bool true, .int .i64 0, fv 80, fv 79, fv 81, .bool true],
    [.string (nm 14), .bool false, .int .i64 16, fv 70, fv 82, fv 83, .bool false],
    [.string (nm 15), .bool false, .int .i64 0, fv 67, fv 84, fv 64, .bool true],
    [.string (nm 16), .bool false, .int .i64 0, fv 68, fv 84, fv 64, .bool true]] : List (List Value)).getD k []
/-- the list of the modes, in block g -/
structure KindsAt (g d : Nat) (w : World) : Prop where
  c : ∀ k, k < 17 → ∀ c v, (kindL d k)[c]? = some v → w.cell? ⟨g, k * 7 + c, none⟩ = some v
  d : w.heap[d]? = some (.cells #[fv 64] 91 (0, 0))
theorem KindsAt.below {g d : Nat} {w w' : World} (h : KindsAt g d w) (hb : Below w.heap.size w w') : KindsAt g d w' :=
  ⟨fun k hk c v hv => cell_below hb (h.c k hk c v hv), (hb.block d (Array.getElem?_eq_some_iff.1 h.d).1).trans h.d⟩

set_option maxRecDepth 100000 in
set_option maxHeartbeats 4000000 in
theorem kinds_any (w : World) : Calls Tryz.prog 44 #[] w fun e w' => ∃ g d, e = .returned (.slice (some ⟨g, 0, none⟩) 17 17) ∧ w.heap.size ≤ g ∧ KindsAt g d w' ∧ Below w.heap.size w w' := by
  go_enter Tryz.func44, Tryz.ntmps44
  go_wp2_with (go_at_call 72; refine (digestPart_any _ _ _ w).mono ?_; rintro e w1 ⟨rfl, hd, hb⟩; have HB := Lib.hid hb; have HD := Lib.hid hd; clear hb hd)
  go_ret
  refine ⟨w1.heap.size, w.heap.size, rfl, HB.out.size, ⟨fun k hk c v hv => ?_, (heap_alloc_old w1 _ (Array.getElem?_eq_some_iff.1 HD.out).1).trans HD.out⟩, HB.out.alloc HB.out.size _⟩
  rw [cell_of_row _ _ _ _ _ _ (heap_alloc_new w1 _), ← hv]
  have hc : c < 7 := by
    rcases Nat.lt_or_ge c 7 with h | h
    · exact h
    · have : (kindL w.heap.size k).length = 7 := by
        match k, hk with
        | 0, _ | 1, _ | 2, _ | 3, _ | 4, _ | 5, _ | 6, _ | 7, _ | 8, _ | 9, _ | 10, _ | 11, _ | 12, _ | 13, _ | 14, _ | 15, _ | 16, _ => rfl
        | k + 17, hk => exact absurd hk (by omega)
      rw [List.getElem?_eq_none (by omega)] at hv
      cases hv
  clear hv
  match k, hk with
  | 0, _ | 1, _ | 2, _ | 3, _ | 4, _ | 5, _ | 6, _ | 7, _ | 8, _ | 9, _ | 10, _ | 11, _ | 12, _ | 13, _ | 14, _ | 15, _ | 16, _ =>
    match c, hc with
    | 0, _ | 1, _ | 2, _ | 3, _ | 4, _ | 5, _ | 6, _ => rfl
    | c + 7, hc => exact absurd hc (by omega)
  | k + 17, hk => exact absurd hk (by omega)
end Go.Proofs.YtmifebcaifbmoaaGreatDoor.Tab
end

/- Find -/
section
namespace Go.Proofs.YtmifebcaifbmoaaGreatDoor.Tab
open Go.RowKit Go.Lib

theorem kindL_len (d : Nat) : ∀ k, k < 17 → (kindL d k).length = 7
  | 0, _ | 1, _ | 2, _ | 3, _ | 4, _ | 5, _ | 6, _ | 7, _ | 8, _ | 9, _ | 10, _ | 11, _ | 12, _ | 13, _ | 14, _ | 15, _ | 16, _ => rfl
  | k + 17, hk => absurd hk (by omega)
theorem kindL_0 (d : Nat) : ∀ k, k < 17 → (kindL d k)[0]? = some (.string (nm k))
  | 0, _ | 1, _ | 2, _ | 3, _ | 4, _ | 5, _ | 6, _ | 7, _ | 8, _ | 9, _ | 10, _ | 11, _ | 12, _ | 13, _ | 14, _ | 15, _ | 16, _ => rfl
  | k + 17, hk => absurd hk (by omega)
theorem nm_inj : ∀ i, i < 17 → ∀ k, k < 17 → nm i = nm k → i = k := by
  have h : ∀ i, i < 17 → ∀ k, k < 17 → (nm i).data.toList = (nm k).data.toList → i = k := by decide +kernel
  exact fun i hi k hk e => h i hi k hk (by rw [e])

theorem bytes_ne {a b : ByteArray} (h : ¬ a = b) : (a.toList == b.toList) = false := by
  rw [ByteArray.toList_eq, ByteArray.toList_eq]
  refine beq_eq_false_iff_ne.2 fun e => h ?_
  cases a; cases b
  simp only [ByteArray.mk.injEq]
  exact Array.toList_inj.1 e

set_option maxHeartbeats 1000000 in
theorem find1_any (a0 s : ByteArray) (cs : Array Value) (h0 : cs[0]? = some (.string a0)) (mb : Nat) (w : World) (hc : w.cell? ⟨mb, 0, none⟩ = some (.string s)) :
    Calls Tryz.prog 62 #[.agg cs, .pointer (some ⟨mb, 0, none⟩)] w fun e w' => e = .returned (.bool (a0.toList == s.toList)) ∧ Below w.heap.size w w' := by
  have B1 := Lib.hid ((Below.refl w.heap.size w).alloc (Nat.le_refl _) (.cells cs 93))
  have C0 : Hid ((w.alloc (.cells cs 93)).cell? ⟨w.heap.size, 0, none⟩ = some (.string a0)) := Lib.hid (by rw [cell_of_row _ _ _ _ _ _ (heap_alloc_new w _)]; exact h0)
  have C1 : Hid ((w.alloc (.cells cs 93)).cell? ⟨mb, 0, none⟩ = some (.string s)) := Lib.hid (cell_below ((Below.refl _ _).alloc (Nat.le_refl _) _) hc)
  clear h0 hc
  go_enter Tryz.func62, Tryz.ntmps62
  go_upto_region 0 with fail
  refine wp_region_lit ?_
  refine Seg.p_boxA rfl 93 _ rfl cs rfl ?_
  simp only [Act.put, List.setIfInBounds_toArray, List.set_cons_zero, List.set_cons_succ]
  generalize w.alloc (.cells cs 93) = w1 at *
  refine Step.p_assign rfl _ rfl (.bool false) rfl ?_
  simp only [Act.put, List.setIfInBounds_toArray, List.set_cons_zero, List.set_cons_succ]
  refine wpList_nil ?_
  have c0 := C0.out
  have c1 := C1.out
  go_wp2
  go_ret
  exact ⟨rfl, B1.out⟩

set_option maxRecDepth 100000 in
set_option maxHeartbeats 4000000 in
theorem indexFunc_any (g d mb j : Nat) (s : ByteArray) (w : World) (hk : KindsAt g d w) (hc : w.cell? ⟨mb, 0, none⟩ = some (.string s)) (hj : j ≤ 17) (hne : ∀ i, i < j → ¬ nm i = s) (hlast : j < 17 → nm j = s) :
    Calls Tryz.prog 61 #[.slice (some ⟨g, 0, none⟩) 17 17, .func (.func 62) #[] #[.pointer (some ⟨mb, 0, none⟩)]] w fun e w' => e = .returned (.int .i64 (if j < 17 then (j : Int) else -1)) ∧ Below w.heap.size w w' := by
  have HK := Lib.hid hk
  have HC := Lib.hid hc
  have HN := Lib.hid hne
  have HL := Lib.hid hlast
  clear hk hc hne hlast
  go_enter Tryz.func61, Tryz.ntmps61
  go_wp2
  go_loopw [8] (fun i wr => ∃ k : Nat, k ≤ j ∧ i = .int .i64 k ∧ Below w.heap.size w wr) (fun i _ => 17 - (Lib.intOf i).toNat)
  case atStart => exact ⟨0, by omega, rfl, Below.refl _ _⟩
  case round =>
    obtain ⟨k, hk, rfl, hb⟩ := hrel
    have HB := Lib.hid hb
    clear hb
    by_cases hlt : k < 17
    · have HR : Hid (wr.rangeAt g (0 + k * 7) (kindL d k)) := Lib.hid fun c v hv => by rw [Nat.zero_add]; exact (HK.out.below HB.out).c k hlt c v hv
      have F1 := Lib.hid (find1_any (nm k) s (kindL d k).toArray (by rw [List.getElem?_toArray]; exact kindL_0 d k hlt) mb wr (cell_below HB.out HC.out))
      have LL : Hid ((Tryz.prog.info? 93).map (·.size) = some (kindL d k).length) := Lib.hid (by rw [kindL_len d k hlt]; kernel_rfl)
      by_cases hkj : k = j
      · subst hkj
        have he : nm k = s := HL.out hlt
        rw [he, beq_self_eq_true] at F1
        go_upto_region 4 with fail
        refine wp_region_lit ?_
        refine Step.p_move rfl _ rfl (.func (.func 62) #[] #[.pointer (some ⟨mb, 0, none⟩)]) rfl ?_
        simp only [Act.put, List.setIfInBounds_toArray, List.set_cons_zero, List.set_cons_succ]
        refine Step.p_move rfl _ rfl (.slice (some ⟨g, 0, none⟩) 17 17) rfl ?_
        simp only [Act.put, List.setIfInBounds_toArray, List.set_cons_zero, List.set_cons_succ]
        refine Step.p_move rfl _ rfl (.int .i64 k) rfl ?_
        simp only [Act.put, List.setIfInBounds_toArray, List.set_cons_zero, List.set_cons_succ]
        refine Step.p_index rfl _ 93 _ _ rfl g 0 17 17 rfl k rfl hlt 7 Tryz.underlying87 (by kernel_rfl) ?_
        simp only [Act.put, List.setIfInBounds_toArray, List.set_cons_zero, List.set_cons_succ]
        refine Tree.p_loadmid rfl _ _ rfl g (0 + k * 7) rfl (kindL d k) HR.out Tryz.underlying93 rfl LL.out ?_
        simp only [Act.put, List.setIfInBounds_toArray, List.set_cons_zero, List.set_cons_succ]
        clear HR LL
        go_wp2_with (go_at_call 62; refine F1.out.mono ?_; rintro e w2 ⟨rfl, hb2⟩)
        go_ret
        exact ⟨by first | rfl | (rw [if_pos hlt]; rfl), HB.out.trans (hb2.mono HB.out.size)⟩
      · have he : ¬ nm k = s := HN.out k (by omega)
        rw [show ((nm k).toList == s.toList) = false from bytes_ne he] at F1
        go_upto_region 4 with fail
        refine wp_region_lit ?_
        refine Step.p_move rfl _ rfl (.func (.func 62) #[] #[.pointer (some ⟨mb, 0, none⟩)]) rfl ?_
        simp only [Act.put, List.setIfInBounds_toArray, List.set_cons_zero, List.set_cons_succ]
        refine Step.p_move rfl _ rfl (.slice (some ⟨g, 0, none⟩) 17 17) rfl ?_
        simp only [Act.put, List.setIfInBounds_toArray, List.set_cons_zero, List.set_cons_succ]
        refine Step.p_move rfl _ rfl (.int .i64 k) rfl ?_
        simp only [Act.put, List.setIfInBounds_toArray, List.set_cons_zero, List.set_cons_succ]
        refine Step.p_index rfl _ 93 _ _ rfl g 0 17 17 rfl k rfl hlt 7 Tryz.underlying87 (by kernel_rfl) ?_
        simp only [Act.put, List.setIfInBounds_toArray, List.set_cons_zero, List.set_cons_succ]
        refine Tree.p_loadmid rfl _ _ rfl g (0 + k * 7) rfl (kindL d k) HR.out Tryz.underlying93 rfl LL.out ?_
        simp only [Act.put, List.setIfInBounds_toArray, List.set_cons_zero, List.set_cons_succ]
        clear HR LL
        go_wp2_with (go_at_call 62; refine F1.out.mono ?_; rintro e w2 ⟨rfl, hb2⟩)
        go_roundw
        case rel => exact ⟨k + 1, by omega, rfl, HB.out.trans (hb2.mono HB.out.size)⟩
        case measure => simp [Lib.intOf]; omega
    · obtain rfl : k = 17 := by omega
      obtain rfl : j = 17 := by omega
      go_wp2
      go_ret
      exact ⟨rfl, HB.out⟩
end Go.Proofs.YtmifebcaifbmoaaGreatDoor.Tab
end

/- Find2 -/
section
namespace Go.Proofs
open Go.RowKit Go.Shelf Go.Lib

def Tryz.laysCut_ren : Go.Shelf.Ren := ⟨fun | 103 => 60 | 210 => 103 | 206 => 155 | n => n, fun | 9 => 9 | 4 => 4 | 24 => 117 | 3 => 3 | n => n, fun | n => n⟩
theorem Tryz.laysCut : Go.Proofs.Lays.n103 Tryz.prog Tryz.laysCut_ren := {
  mixed := by kernel_rfl
  f103 := Tryz.func60.trans (congrArg some (by kernel_rfl))
  f206 := Tryz.func155.trans (congrArg some (by kernel_rfl))
  f210 := Tryz.func103.trans (congrArg some (by kernel_rfl))
  t3 := Tryz.underlying3
  a3 := Tryz.isAgg3
  z3 := Tryz.sizeOf3
  v3 := Tryz.zeroValue3
  t4 := Tryz.underlying4
  a4 := Tryz.isAgg4
  z4 := Tryz.sizeOf4
  v4 := Tryz.zeroValue4
  t9 := Tryz.underlying9
  a9 := Tryz.isAgg9
  z9 := Tryz.sizeOf9
  v9 := Tryz.zeroValue9
  t24 := Tryz.underlying117
  a24 := Tryz.isAgg117
  z24 := Tryz.sizeOf117
  v24 := Tryz.zeroValue117 }

namespace YtmifebcaifbmoaaGreatDoor.Tab
theorem cut_any (s p : ByteArray) (w : World) : Calls Tryz.prog 60 #[.string s, .string p] w fun e w' => e = .returned (.tuple #[.string ⟨(Lib.trimPrefix s.data.toList p.data.toList).toArray⟩, .bool (Lib.hasPrefix s.data.toList p.data.toList)]) ∧ w' = w := Any.strings_CutPrefix Tryz.laysCut s p w
theorem cut_facts : ∀ i, i < 3 → ∀ k, k < 17 → ∀ r, r < 3 → Lib.hasPrefix (pre i ++ nm k).data.toList (pre r).data.toList = decide (i = r) ∧ Lib.trimPrefix (pre i ++ nm k).data.toList (pre r).data.toList = if i = r then (nm k).data.toList else (pre i ++ nm k).data.toList := by decide +kernel
theorem nm_facts : ∀ i, i < 3 → ∀ k, k < 17 → ∀ m, m < 17 → (nm m).data.toList ≠ (pre i ++ nm k).data.toList := by decide +kernel
theorem null_facts : ∀ i, i < 3 → ∀ k, k < 17 → (pre i ++ nm k).data.toList ≠ null.data.toList := by decide +kernel
theorem of_list (b : ByteArray) : (⟨b.data.toList.toArray⟩ : ByteArray) = b := by cases b; simp
theorem cut_spec (i k r : Nat) (hi : i < 3) (hk : k < 17) (hr : r < 3) (w : World) : Calls Tryz.prog 60 #[.string (pre i ++ nm k), .string (pre r)] w fun e w' => e = .returned (.tuple #[.string (if i = r then nm k else pre i ++ nm k), .bool (decide (i = r))]) ∧ w' = w :=
  (cut_any _ _ w).mono fun e w' ⟨h1, h2⟩ => ⟨by
    obtain ⟨a, b⟩ := cut_facts i hi k hk r hr
    rw [h1, a, b]
    split
    · rw [of_list]
    · rw [of_list], h2⟩
theorem kindL_12 (d : Nat) : ∀ k, k < 17 → (kindL d k)[1]? = some (.bool (decide (moT k < 0))) ∧ (kindL d k)[2]? = some (.int .i64 (if moT k < 0 then 0 else moT k))
  | 0, _ | 1, _ | 2, _ | 3, _ | 4, _ | 5, _ | 6, _ | 7, _ | 8, _ | 9, _ | 10, _ | 11, _ | 12, _ | 13, _ | 14, _ | 15, _ | 16, _ => ⟨rfl, rfl⟩
  | k + 17, hk => absurd hk (by omega)
set_option maxRecDepth 100000 in
set_option maxHeartbeats 4000000 in
theorem find_any (i0 k0 : Nat) (hi : i0 < 3) (hk : k0 < 17) (w : World) (hS : Sizes w) :
    Calls Tryz.prog 43 #[.string (pre i0 ++ nm k0)] w fun e w' => ∃ g d, e = .returned (.tuple #[.pointer (some ⟨g, k0 * 7, none⟩), .int .i64 (szT i0 k0)]) ∧ w.heap.size ≤ g ∧ KindsAt g d w' ∧ Below w.heap.size w w' := by
  have NF : Hid (¬ (pre i0 ++ nm k0).toList = [110, 117, 108, 108]) := Lib.hid (by rw [ByteArray.toList_eq]; exact null_facts i0 hi k0 hk)
  have CT := Lib.hid (fun r hr w => cut_spec i0 k0 r hi hk hr w)
  have NM := Lib.hid (nm_facts i0 hi k0 hk)
  have HS := Lib.hid hS
  have KD := Lib.hid (fun w => kinds_any w)
  clear hS
  generalize hspec : pre i0 ++ nm k0 = spec at *
  have HSP := Lib.hid hspec
  clear hspec
  go_enter Tryz.func43, Tryz.ntmps43
  go_upto_region 1 with fail
  refine wp_region_lit ?_
  refine Step.p_move rfl _ rfl (.string spec) rfl ?_
  simp only [Act.put, List.setIfInBounds_toArray, List.set_cons_zero, List.set_cons_succ]
  refine Step.p_val rfl (.bool false) (by unfold execOp; go_simp; exact NF.out) ?_
  simp only [Act.put, List.setIfInBounds_toArray, List.set_cons_zero, List.set_cons_succ]
  refine wpList_nil ?_
  go_upto_region 4 with (go_at_call 44; refine (KD.out _).mono ?_; rintro e w1 ⟨g, d, rfl, hg, hka, hb⟩)
  have H1 := Lib.hid hka
  have B1 := Lib.hid hb
  clear hka hb KD
  obtain ⟨gs, os, cs, q0, q1, q2, q3⟩ := (HS.out.below B1.out).h
  have Q3 := Lib.hid q3
  have q2' : cs ≤ 9223372036854775807 := q2
  clear q3 HS q2
  go_wp2
  go_loopw [18] (fun i wr => ∃ r : Nat, r ≤ i0 ∧ i = .int .i64 r ∧ Below w1.heap.size w1 wr) (fun i _ => 3 - (Lib.intOf i).toNat)
  case atStart => exact ⟨0, by omega, rfl, Below.refl _ _⟩
  case round =>
    obtain ⟨r, hr, rfl, hb⟩ := hrel
    have HB := Lib.hid hb
    clear hb
    have hr3 : r < 3 := by omega
    obtain ⟨p0, p1⟩ := Q3.out r hr3
    have c0 := cell_below HB.out p0
    have c1 := cell_below HB.out p1
    clear p0 p1
    have CR := Lib.hid (CT.out r hr3)
    by_cases he : r = i0
    · subst he
      have CR : Hid (∀ w, Calls Tryz.prog 60 #[.string spec, .string (pre r)] w fun e w' => e = .returned (.tuple #[.string (nm k0), .bool true]) ∧ w' = w) := Lib.hid (by have := CT.out r hr3; simpa using this)
      go_upto_region 8 with (go_at_call 60; refine (CR.out _).mono ?_; rintro e w' ⟨rfl, rfl⟩)
      have XB : Hid (Below w1.heap.size w1 ((wr.alloc (.cells #[.string (pre r), .int .i64 (aesT r : Nat)] 86)).alloc (.cells #[.string (nm k0)] 9))) := Lib.hid ((HB.out.alloc HB.out.size _).alloc (by have := HB.out.size; simp; omega) _)
      have XM : Hid (((wr.alloc (.cells #[.string (pre r), .int .i64 (aesT r : Nat)] 86)).alloc (.cells #[.string (nm k0)] 9)).cell? ⟨wr.heap.size + 1, 0, none⟩ = some (.string (nm k0))) := Lib.hid (by
        have := heap_alloc_new (wr.alloc (.cells #[.string (pre r), .int .i64 (aesT r : Nat)] 86)) (.cells #[.string (nm k0)] 9)
        rw [World.size_alloc] at this
        rw [cell_of_row _ _ _ _ _ _ this]
        rfl)
      have XS : Hid (((wr.alloc (.cells #[.string (pre r), .int .i64 (aesT r : Nat)] 86)).alloc (.cells #[.string (nm k0)] 9)).cell? ⟨wr.heap.size, 1, none⟩ = some (.int .i64 (aesT r : Nat))) := Lib.hid (by
        rw [cell_of_row _ _ _ _ _ _ ((heap_alloc_old _ _ (by simp)).trans (heap_alloc_new wr _))]
        rfl)
      clear c0 c1 CR
      generalize ((wr.alloc (.cells #[.string (pre r), .int .i64 (aesT r : Nat)] 86)).alloc (.cells #[.string (nm k0)] 9)) = X at *
      have IX := Lib.hid (indexFunc_any g d (wr.heap.size + 1) k0 (nm k0) X (H1.out.below XB.out) XM.out (by omega) (fun i hi he => by have := nm_inj i (by omega) k0 hk he; omega) (fun _ => rfl))
      rw [if_pos hk] at IX
      have hk7 : k0 * 7 + 7 ≤ 119 := by omega
      go_upto_region 10 with (go_at_call 61; refine IX.out.mono ?_; rintro e w2 ⟨rfl, hb2⟩)
      have KB := Lib.hid ((H1.out.below XB.out).below hb2)
      have BB := Lib.hid (XB.out.trans (hb2.mono XB.out.size))
      have x1 := cell_below hb2 XS.out
      have y1 := KB.out.c k0 hk 1 _ (kindL_12 d k0 hk).1
      have y2 := KB.out.c k0 hk 2 _ (kindL_12 d k0 hk).2
      obtain ⟨m1, m2⟩ := moT_bd k0 hk
      have hsz : szT r k0 = if moT k0 < 0 then 2 * (16 + 8 * (r : Int)) else 16 + 8 * (r : Int) + moT k0 := rfl
      unfold aesT at x1
      clear XS XM hb2 IX
      generalize moT k0 = mo at *
      by_cases hmo : mo < 0
      all_goals
        simp only [hmo, if_true, if_false, decide_true, decide_false] at y1 y2 hsz
        have HZ := Lib.hid hsz
        clear hsz
        go_region
        go_wp2
        go_ret2
        first | exact ⟨g, by rw [HZ.out]; rfl, hg, ⟨d, KB.out.below (Below.refl _ _).drew⟩, (B1.out.trans (BB.out.mono B1.out.size)).drew⟩ | exact ⟨g, d, by rw [HZ.out]; rfl, hg, KB.out.below (Below.refl _ _).drew, (B1.out.trans (BB.out.mono B1.out.size)).drew⟩
    · have CR : Hid (∀ w, Calls Tryz.prog 60 #[.string spec, .string (pre r)] w fun e w' => e = .returned (.tuple #[.string spec, .bool false]) ∧ w' = w) := Lib.hid (by have := CT.out r hr3; rw [if_neg (by omega), decide_eq_false (by omega)] at this; exact this)
      go_upto_region 8 with (go_at_call 60; refine (CR.out _).mono ?_; rintro e w' ⟨rfl, rfl⟩)
      have XB : Hid (Below w1.heap.size w1 ((wr.alloc (.cells #[.string (pre r), .int .i64 (aesT r : Nat)] 86)).alloc (.cells #[.string spec] 9))) := Lib.hid ((HB.out.alloc HB.out.size _).alloc (by have := HB.out.size; simp; omega) _)
      have XM : Hid (((wr.alloc (.cells #[.string (pre r), .int .i64 (aesT r : Nat)] 86)).alloc (.cells #[.string spec] 9)).cell? ⟨wr.heap.size + 1, 0, none⟩ = some (.string spec)) := Lib.hid (by
        have := heap_alloc_new (wr.alloc (.cells #[.string (pre r), .int .i64 (aesT r : Nat)] 86)) (.cells #[.string spec] 9)
        rw [World.size_alloc] at this
        rw [cell_of_row _ _ _ _ _ _ this]
        rfl)
      have XS : Hid (((wr.alloc (.cells #[.string (pre r), .int .i64 (aesT r : Nat)] 86)).alloc (.cells #[.string spec] 9)).cell? ⟨wr.heap.size, 1, none⟩ = some (.int .i64 (aesT r : Nat))) := Lib.hid (by
        rw [cell_of_row _ _ _ _ _ _ ((heap_alloc_old _ _ (by simp)).trans (heap_alloc_new wr _))]
        rfl)
      clear c0 c1 CR
      generalize ((wr.alloc (.cells #[.string (pre r), .int .i64 (aesT r : Nat)] 86)).alloc (.cells #[.string spec] 9)) = X at *
      have IX := Lib.hid (indexFunc_any g d (wr.heap.size + 1) 17 spec X (H1.out.below XB.out) XM.out (by omega) (fun i hi he => NM.out i hi (by rw [he])) (fun h => absurd h (by omega)))
      rw [if_neg (by omega)] at IX
      go_wp2_with (go_at_call 61; refine IX.out.mono ?_; rintro e w2 ⟨rfl, hb2⟩)
      go_roundw
      case rel => exact ⟨r + 1, by omega, rfl, XB.out.trans (hb2.mono XB.out.size)⟩
      case measure => simp [Lib.intOf]; omega
end YtmifebcaifbmoaaGreatDoor.Tab
end Go.Proofs
end

/- NewLrw -/
section
namespace Go.Proofs.YtmifebcaifbmoaaGreatDoor.Tw
open Go.RowKit Go.Lib Go.Proofs.YtmifebcaifbmoaaGreatDoor.Blk Go.Proofs.YtmifebcaifbmoaaGreatDoor.Aes Go.Proofs.YtmifebcaifbmoaaGreatDoor.Tab

/-- a cipher of LRW, whole -/
structure CiphLrw (key : Nat → Nat) (nk cb : Nat) (w : World) : Prop where
  h : ∃ xb gk d s u cs v, w.heap[cb]? = some (.cells #[.pointer (some ⟨xb, 0, none⟩), .pointer (some ⟨gk, 14 * 7, none⟩), s, u] 80 (0, 0)) ∧ w.heap[xb]? = some (.cells cs 96 (0, 0)) ∧ CoreAt cs v (fun i => key (4 * nk + i)) ∧ Sched key nk v w ∧ KindsAt gk d w ∧ LrwAt 106 cb s w ∧ LrwAt 109 cb u w
theorem BtwAt.below {f : FuncId} {v : Value} {w w' : World} (h : BtwAt f v w) (hb : Below w.heap.size w w') : BtwAt f v w' := by
  obtain ⟨p, h1, h2⟩ := h
  exact ⟨p, h1, cell_bel hb h2⟩
theorem LrwAt.below {f : FuncId} {cb : Nat} {v : Value} {w w' : World} (h : LrwAt f cb v w) (hb : Below w.heap.size w w') : LrwAt f cb v w' := by
  obtain ⟨x, d, u, h1, h2, h3, h4⟩ := h
  exact ⟨x, d, u, h1, cell_bel hb h2, cell_bel hb h3, h4.below hb⟩
theorem CiphLrw.below {key : Nat → Nat} {nk cb : Nat} {w w' : World} (h : CiphLrw key nk cb w) (hb : Below w.heap.size w w') : CiphLrw key nk cb w' := by
  obtain ⟨xb, gk, d, s, u, cs, v, h1, h2, h3, h4, h5, h6, h7⟩ := h
  exact ⟨xb, gk, d, s, u, cs, v, (hb.block cb (Array.getElem?_eq_some_iff.1 h1).1).trans h1, (hb.block xb (Array.getElem?_eq_some_iff.1 h2).1).trans h2, h3, h4.below hb, h5.below hb, h6.below hb, h7.below hb⟩
theorem KindsAt_lt {g d : Nat} {w : World} (h : KindsAt g d w) : g < w.heap.size ∧ d < w.heap.size :=
  ⟨Frame.block_lt (h.c 0 (by decide) 0 _ rfl), (Array.getElem?_eq_some_iff.1 h.d).1⟩
theorem KindsAt_gb {g d c : Nat} {w w' : World} (h : KindsAt g d w) (hg : w.grownBy w' (some c)) (h1 : g ≠ c) (h2 : d ≠ c) : KindsAt g d w' :=
  ⟨fun k hk i v hv => cell_gb hg h1 (h.c k hk i v hv), (hg.block d (KindsAt_lt h).2 (fun e => h2 (Option.some.inj e))).trans h.d⟩
/-- a new core -/
def coreZ (s : ByteArray) (n : Int) : Array Value := #[.string s, .int .i64 n, .pointer none, .pointer none, .int .u8 0, .int .u8 0, .int .u8 0, .int .u8 0, .int .u8 0, .int .u8 0, .int .u8 0, .int .u8 0, .int .u8 0, .int .u8 0, .int .u8 0, .int .u8 0, .int .u8 0, .int .u8 0, .int .u8 0, .int .u8 0, .int .u8 0, .int .u8 0, .int .u8 0, .int .u8 0, .int .u8 0, .int .u8 0, .int .u8 0, .int .u8 0, .int .u8 0, .int .u8 0, .int .u8 0, .int .u8 0, .int .u8 0, .int .u8 0, .int .u8 0, .int .u8 0, .bool false]
theorem KeyB.below {w w' : World} {g off n : Nat} {key : Nat → Nat} (h : KeyB w g off n key) (hb : Below w.heap.size w w') : KeyB w' g off n key := fun j hj => cell_bel hb (h j hj)

end Go.Proofs.YtmifebcaifbmoaaGreatDoor.Tw
end

/- May -/
section
namespace Go.Proofs.YtmifebcaifbmoaaGreatDoor.Tw
open Go.RowKit Go.Lib Go.Proofs.YtmifebcaifbmoaaGreatDoor.Blk Go.Proofs.YtmifebcaifbmoaaGreatDoor.Aes Go.Proofs.YtmifebcaifbmoaaGreatDoor.Tab Go.Proofs.YtmifebcaifbmoaaGreatDoor.Byts Go.Proofs.YtmifebcaifbmoaaGreatDoor.Push

theorem none_any (cb xb : Nat) (w : World) (h : w.cell? ⟨cb, 0, none⟩ = some (.pointer (some ⟨xb, 0, none⟩))) : Calls Tryz.prog 49 #[.pointer (some ⟨cb, 0, none⟩)] w fun e w' => e = .returned (.bool false) ∧ w = w' := by
  go_enter Tryz.func49, Tryz.ntmps49
  go_wp2
  go_ret
  exact ⟨rfl, rfl⟩
set_option maxRecDepth 100000 in
set_option maxHeartbeats 2000000 in
theorem may_any (cb xb gk ko n : Nat) (loose : Bool) (w : World) (h1 : w.cell? ⟨cb, 0, none⟩ = some (.pointer (some ⟨xb, 0, none⟩))) (h2 : w.cell? ⟨xb, 36, none⟩ = some (.bool false)) (h3 : w.cell? ⟨cb, 1, none⟩ = some (.pointer (some ⟨gk, ko, none⟩))) (h4 : w.cell? ⟨gk, ko + 6, none⟩ = some (.bool loose)) (hn : 16 ≤ n) (hn2 : n ≤ 4096) (hl : loose = true ∨ n % 16 = 0) :
    Calls Tryz.prog 40 #[.pointer (some ⟨cb, 0, none⟩), .int .i64 n] w fun e w' => e = .returned (.int .i64 0) ∧ w = w' := by
  have NO := Lib.hid (none_any cb xb w h1)
  cases loose with
  | true =>
    clear hl
    go_enter Tryz.func40, Tryz.ntmps40
    go_wp2_with (go_at_call 49; refine NO.out.mono ?_; rintro e w' ⟨rfl, rfl⟩)
    go_ret
    exact ⟨rfl, rfl⟩
  | false =>
    have hl : n % 16 = 0 := hl.resolve_left (by decide)
    have hli : (n : Int) % 16 = 0 := by omega
    have hl1 : ¬ (n : Int) < 16 := by omega
    have hl2 : ¬ 4096 < (n : Int) := by omega
    clear hl
    go_enter Tryz.func40, Tryz.ntmps40
    go_wp2_with (go_at_call 49; refine NO.out.mono ?_; rintro e w' ⟨rfl, rfl⟩)
    go_ret
    exact ⟨rfl, rfl⟩
end Go.Proofs.YtmifebcaifbmoaaGreatDoor.Tw
end

/- Clone -/
section
namespace Go.Proofs.YtmifebcaifbmoaaGreatDoor.Tw
open Go.RowKit Go.Lib Go.Proofs.YtmifebcaifbmoaaGreatDoor.Blk Go.Proofs.YtmifebcaifbmoaaGreatDoor.Byts Go.Proofs.YtmifebcaifbmoaaGreatDoor.Push

theorem sec_of {w : World} {B g n c : Nat} {F : Nat → Nat} (h : w.ownsRow B 5 1 (.slice (some ⟨g, 0, none⟩) n c) n (bl F n)) : Sec w g n F ∧ B ≤ g ∧ n ≤ c ∧ c ≤ 9223372036854775807 := by
  have hcell := fun j hj => h.cellAt j hj
  rcases h.2 with ⟨e, _⟩ | ⟨g', c', cur, e, h1, hg, n1, m1, hs, _⟩
  · cases e
  · cases e
    refine ⟨⟨cur, hg, by omega, fun i hi => ?_⟩, h1, n1, m1⟩
    have := (hcell i (by omega)).trans (bl_get F n i hi)
    rwa [cell_of_row w g i _ _ _ hg] at this

set_option maxRecDepth 100000 in
set_option maxHeartbeats 2000000 in
theorem clone_any (b off n c : Nat) (F : Nat → Nat) (w : World) (hn : 0 < n) (hbig : n ≤ 140737488347136) (h : BL w (some ⟨b, off, none⟩) n F) :
    Calls Tryz.prog 41 #[.slice (some ⟨b, off, none⟩) n c] w fun e w' => ∃ g cap, e = .returned (.slice (some ⟨g, 0, none⟩) n cap) ∧ Sec w' g n F ∧ w.heap.size ≤ g ∧ n ≤ cap ∧ cap ≤ 9223372036854775807 ∧ Below w.heap.size w w' := by
  obtain ⟨i0, hi, hz0, hz1, hz2⟩ := u8_info
  have hnil := fun (a : Option Addr) (n c : Nat) (w : World) => Lib.run_eql_slice_nil (P := Tryz.prog) w 22 5 a n c 0 0 Tryz.underlying22
  have A := Lib.hid h
  clear h
  go_enter Tryz.func41, Tryz.ntmps41
  go_wp2_with (at_builtin; refine wpList_append_own _ rfl _ _ 22 rfl w.heap.size 5 i0 (.int .u8 0) 1 1 Tryz.underlying22 hi hz0 hz1 hz2 rfl (by decide) _ _ _ rfl (World.ownsRow_made w #[] 0 (Nat.le_refl _) (Nat.zero_le _) rfl) ⟨b, off, none⟩ n c (bl F n) rfl ?qc1 ?qc2 ?qc3 ?qc4 ?qc5 ?qc6 ?_)
  case qc1 => rw [bl_len]; omega
  case qc2 =>
    intro j u hj
    have hjn : j < n := by
      have := (List.getElem?_eq_some_iff.1 hj).1
      rwa [bl_len] at this
    obtain ⟨g', o', e, hc⟩ := A.out j hjn
    cases e
    rw [Addr.add_lit]
    refine Lib.cell?_alloc_some _ ?_
    rw [hc, ← hj, bl_get _ _ _ hjn]
  case qc3 =>
    intro u hu
    simp only [bl, List.mem_map] at hu
    obtain ⟨x, _, rfl⟩ := hu
    rfl
  case qc4 => unfold maxLen; omega
  case qc5 => omega
  case qc6 => simp
  intro v' w1 hown hgrow hnn
  try simp only [Nat.zero_add, List.nil_append] at hown
  have HO := Lib.hid hown
  have HB := Lib.hid (((Below.refl _ w).alloc (Nat.le_refl _) _).grown hgrow (by simp) (by intro k hk; simp [Value.ownBlock] at hk; omega))
  clear hown hgrow hnn
  rcases HO.out.2 with ⟨_, h'⟩ | ⟨g, cap, cur, rfl, _⟩
  · omega
  obtain ⟨s1, s2, s3, s4⟩ := sec_of HO.out
  have S1 := Lib.hid s1
  clear s1
  go_wp2
  go_ret
  exact ⟨g, cap, rfl, S1.out, s2, s3, s4, HB.out⟩
end Go.Proofs.YtmifebcaifbmoaaGreatDoor.Tw
end

/- Run -/
section
namespace Go.Proofs.YtmifebcaifbmoaaGreatDoor.Tw
open Go.RowKit Go.Lib Go.Proofs.YtmifebcaifbmoaaGreatDoor.Blk Go.Proofs.YtmifebcaifbmoaaGreatDoor.Poly Go.Proofs.YtmifebcaifbmoaaGreatDoor.Field Go.Proofs.YtmifebcaifbmoaaGreatDoor.Tab

/-- what the function reads of its cipher -/
structure RunE (f : FuncId) (x d p xb cb gk F : Nat) (v : Value) (w : World) : Prop where
  cx : w.cell? ⟨x, 0, none⟩ = some (.pointer (some ⟨cb, 0, none⟩))
  cd : w.cell? ⟨d, 0, none⟩ = some (.func (.func 167) #[] #[.pointer (some ⟨p, 0, none⟩)])
  cp : w.cell? ⟨p, 0, none⟩ = some (.func (.func f) #[] #[])
  c0 : w.cell? ⟨cb, 0, none⟩ = some (.pointer (some ⟨xb, 0, none⟩))
  c1 : w.cell? ⟨cb, 1, none⟩ = some (.pointer (some ⟨gk, 14 * 7, none⟩))
  k0 : ∃ s, w.cell? ⟨gk, 0, none⟩ = some (.string s)
  ks : w.cell? ⟨gk, 14 * 7 + 3, none⟩ = some (fv 70)
  n0 : ∃ s, w.cell? ⟨xb, 0, none⟩ = some (.string s)
  m : w.cell? ⟨xb, 2, none⟩ = some v
  fl : w.rangeAt xb 4 (arr .u8 16 fun i => ((byt F i : Nat) : Int)).toList
theorem ne_u8 {w : World} {b g : Nat} {u : Value} {z : Int} (h1 : w.cell? ⟨b, 0, none⟩ = some u) (h2 : w.cell? ⟨g, 0, none⟩ = some (.int .u8 z)) (hu : ∀ z, u ≠ .int .u8 z) : b ≠ g := fun e => by
  subst e
  rw [h1] at h2
  exact hu z (Option.some.inj h2)
theorem RunE.gb {f : FuncId} {x d p xb cb gk F : Nat} {v : Value} {w w' : World} {g : Nat} {z : Int} (h : RunE f x d p xb cb gk F v w) (hz : w.cell? ⟨g, 0, none⟩ = some (.int .u8 z)) (hg : w.grownBy w' (some g)) : RunE f x d p xb cb gk F v w' := by
  obtain ⟨s1, e1⟩ := h.k0
  obtain ⟨s2, e2⟩ := h.n0
  have nx := ne_u8 h.cx hz (fun z e => by cases e)
  have nd := ne_u8 h.cd hz (fun z e => by cases e)
  have np := ne_u8 h.cp hz (fun z e => by cases e)
  have nc := ne_u8 h.c0 hz (fun z e => by cases e)
  have nk := ne_u8 e1 hz (fun z e => by cases e)
  have nb := ne_u8 e2 hz (fun z e => by cases e)
  exact ⟨cell_gb hg nx h.cx, cell_gb hg nd h.cd, cell_gb hg np h.cp, cell_gb hg nc h.c0, cell_gb hg nc h.c1, ⟨s1, cell_gb hg nk e1⟩, cell_gb hg nk h.ks, ⟨s2, cell_gb hg nb e2⟩, cell_gb hg nb h.m, fun i u hi => cell_gb hg nb (h.fl i u hi)⟩
theorem gb_bel {w w' w2 : World} {g : Nat} (h : w.grownBy w' (some g)) (hb : Below w'.heap.size w' w2) : w.grownBy w2 (some g) := gb_trans h ⟨hb.os, hb.tape, hb.output, hb.size, fun k hk _ => hb.block k hk⟩
section
variable {P : Program} {a : Act} {w : World} {o : Oper} {K : Act → World → Prop} {Q : Exit → Act → World → Prop}
/-- a new array of numbers, all zero -/
theorem w_newarr (ty : TypeId) (ho : o.op = .alloc ty) (k : IntKind) (n : Nat) (hz : (P.info? ty).bind (·.zero) = some (.agg (arr k n fun _ => 0)))
    (h : ∀ w', Arr w' w.heap.size k n ty (fun _ => 0) → w.grownBy w' none → w'.heap.size = w.heap.size + 1 → K (a.put o.dst (.pointer (some ⟨w.heap.size, 0, none⟩))) w') : o.wp P a w K Q := by
  cases hie : P.info? ty with
  | none => simp [hie] at hz
  | some ie =>
    simp only [hie, Option.bind_some] at hz
    refine Step.w_run (.pointer (some ⟨w.heap.size, 0, none⟩)) (w.alloc (.cells (arr k n fun _ => 0) ty)) (by
      unfold execOp
      have h0 : (zeroValue ty).run P w = .ok (.agg (arr k n fun _ => 0)) w := by simp [zeroValue, typeInfo, hie, hz]
      simp [ho, Instr.alloc, newVar, newRow, go_sem, h0, Value.cells]) (h _ (Arr.new w k n ty _) (World.grownBy_alloc w _ none) (by simp))
end

end Go.Proofs.YtmifebcaifbmoaaGreatDoor.Tw
end
