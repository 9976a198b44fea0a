/- tweak.Specs: the list of names. -/
import Derived.Test.YtphdiihlohcpfaaGreatDoorKinds
import Derived.Deep.WholeRow
import Derived.Test.YtphdiihlohcpfaaGreatDoorStep
namespace Go.Proofs.YtphdiihlohcpfaaGreatDoor.Names
open Go.RowKit Go.Lib

/-- the beginnings -/
def pre (i : Nat) : ByteArray := ⟨(#[#[97, 101, 115, 49, 50, 56, 45], #[97, 101, 115, 49, 57, 50, 45], #[97, 101, 115, 50, 53, 54, 45]] : Array (Array UInt8)).getD i #[]⟩
def null : ByteArray := ⟨#[110, 117, 108, 108]⟩
/-- name j of the list -/
def name (j : Nat) : ByteArray := if j = 0 then null else pre ((j - 1) / 17) ++ nm ((j - 1) % 17)
theorem name_at (i k : Nat) (hk : k < 17) : name (1 + 17 * i + k) = pre i ++ nm k := by
  unfold name
  rw [if_neg (by omega), show (1 + 17 * i + k - 1) / 17 = i by omega, show (1 + 17 * i + k - 1) % 17 = k by omega]
theorem pre_size : ∀ k, k < 3 → (pre k).size ≤ 16 := by decide
theorem nm_size : ∀ k, k < 17 → (nm k).size ≤ 16 := by decide
def names (n : Nat) : List Value := (List.range n).map fun j => .string (name j)
theorem names_succ (n : Nat) : names n ++ [.string (name n)] = names (n + 1) := by simp [names, List.range_succ]

/-- the beginnings of the names, as the package's variable holds them -/
structure Sizes (w : World) : Prop where
  h : ∃ g off cap, w.cell? ⟨0, 0, none⟩ = some (.slice (some ⟨g, off, none⟩) 3 cap) ∧ 3 ≤ cap ∧ cap ≤ maxLen ∧ ∀ i, i < 3 → w.cell? ⟨g, off + i * 2, none⟩ = some (.string (pre i)) ∧ ∃ z, w.cell? ⟨g, off + i * 2 + 1, none⟩ = some (.int .i64 z)
theorem Sizes.below {w w' : World} (h : Sizes w) (hb : Below w.heap.size w w') : Sizes w' := by
  obtain ⟨g, off, cap, h1, h2, h3, h4⟩ := h
  refine ⟨g, off, cap, by rw [← h1]; exact hb.cell (Frame.block_lt h1), h2, h3, fun i hi => ?_⟩
  obtain ⟨h5, z, h6⟩ := h4 i hi
  exact ⟨by rw [← h5]; exact hb.cell (Frame.block_lt h5), z, by rw [← h6]; exact hb.cell (Frame.block_lt h6)⟩

theorem str_info : (Tryz.prog.info? 9).map (fun i => (i.zero, i.size, i.bytes)) = some (some (.string ⟨#[]⟩), 1, 16) := by kernel_rfl
theorem info_parts' {P : Program} {e : TypeId} {z : Value} {s b : Nat} (h : (P.info? e).map (fun i => (i.zero, i.size, i.bytes)) = some (some z, s, b)) : ∃ i, P.info? e = some i ∧ i.zero = some z ∧ i.size = s ∧ i.bytes = b := by
  cases hi : P.info? e with
  | none => simp [hi] at h
  | some I =>
    simp only [hi, Option.map_some, Option.some.injEq, Prod.mk.injEq] at h
    exact ⟨I, rfl, h.1, h.2.1, h.2.2⟩

theorem range7 {w : World} {g o : Nat} {v0 v1 v2 v3 v4 v5 v6 : Value} (h0 : w.cell? ⟨g, o, none⟩ = some v0) (h1 : w.cell? ⟨g, o + 1, none⟩ = some v1) (h2 : w.cell? ⟨g, o + 2, none⟩ = some v2) (h3 : w.cell? ⟨g, o + 3, none⟩ = some v3) (h4 : w.cell? ⟨g, o + 4, none⟩ = some v4) (h5 : w.cell? ⟨g, o + 5, none⟩ = some v5) (h6 : w.cell? ⟨g, o + 6, none⟩ = some v6) :
    w.rangeAt g (0 + o) [v0, v1, v2, v3, v4, v5, v6] := by
  rw [Nat.zero_add]
  intro j v hj
  match j, hj with
  | 0, hj => cases hj; exact h0
  | 1, hj => cases hj; exact h1
  | 2, hj => cases hj; exact h2
  | 3, hj => cases hj; exact h3
  | 4, hj => cases hj; exact h4
  | 5, hj => cases hj; exact h5
  | 6, hj => cases hj; exact h6
  | j + 7, hj => simp at hj

theorem own_ne {w : World} {base : Nat} {e t : TypeId} {size : Nat} {v : Value} {n : Nat} {xs : List Value} (h : w.ownsRow base e size v n xs) {g : Nat} {c : Array Value} {fz : Nat × Nat} (hc : w.heap[g]? = some (.cells c t fz)) (hne : t ≠ e) : some g ≠ v.ownBlock := by
  rcases h.2 with ⟨rfl, _⟩ | ⟨g', cap, cur, rfl, _, hgb, _⟩
  · simp [Value.ownBlock]
  · intro e'
    obtain rfl : g = g' := by simpa [Value.ownBlock] using e'
    rw [hgb] at hc
    cases hc
    exact hne rfl

set_option maxRecDepth 100000 in
set_option maxHeartbeats 4000000 in
theorem specs_any (w : World) (hS : Sizes w) : Calls Tryz.prog 4 #[] w fun e w' => ∃ v, e = .returned v ∧ w'.ownsRow w.heap.size 9 1 v 52 (names 52) ∧ Below w.heap.size w w' := by
  have HS := Lib.hid hS
  have hi7 : (Tryz.prog.info? 37).map (·.size) = some 7 := by kernel_rfl
  obtain ⟨i0, hi, hz0, hz1, hz2⟩ := info_parts' str_info
  have HO : Hid ((w.alloc (.cells #[.string ⟨#[110, 117, 108, 108]⟩] 9)).ownsRow w.heap.size 9 1 (.slice (some ⟨w.heap.size, 0, none⟩) 1 1) 1 (names 1)) := Lib.hid (World.ownsRow_lit w #[.string ⟨#[110, 117, 108, 108]⟩] 1 (Nat.le_refl _) (by unfold maxLen; omega) rfl)
  have HB := Lib.hid ((Below.refl w.heap.size w).alloc (Nat.le_refl _) (.cells #[.string ⟨#[110, 117, 108, 108]⟩] 9))
  obtain ⟨gs, os, cs, s0, s2, s3, s4⟩ := HS.out.h
  have s1 := (HB.out.cell (Frame.block_lt s0)).trans s0
  clear s0
  have s3' : cs ≤ 9223372036854775807 := s3
  have HS4 := Lib.hid s4
  clear s4 hS
  go_enter Tryz.func4, Tryz.ntmps4
  go_upto_region 2 with fail
  generalize w.alloc (.cells #[.string ⟨#[110, 117, 108, 108]⟩] 9) = w1 at *
  go_wp2
  go_loopw [9, 1] (fun i v wr => ∃ k : Nat, k ≤ 3 ∧ i = .int .i64 k ∧ wr.ownsRow w.heap.size 9 1 v (1 + 17 * k) (names (1 + 17 * k)) ∧ Below w.heap.size w wr) (fun i _ _ => 3 - (intOf i).toNat)
  case atStart => exact ⟨0, by omega, rfl, HO.out, HB.out⟩
  case round =>
    obtain ⟨k, hk, rfl, hown, hb⟩ := hrel
    have HO2 := Lib.hid hown
    have HB2 := Lib.hid hb
    clear HO HB hown hb
    by_cases hlt : k < 3
    · obtain ⟨c0, z, c1⟩ := HS4.out k hlt
      have d0 := (HB2.out.cell (p := ⟨gs, os + k * 2, none⟩) (Frame.block_lt c0)).trans c0
      have d1 := (HB2.out.cell (p := ⟨gs, os + k * 2 + 1, none⟩) (Frame.block_lt c1)).trans c1
      clear c0 c1
      have HB3 := Lib.hid (HB2.out.alloc HB2.out.size (.cells #[.string (pre k), .int .i64 z] 30))
      have HN := Lib.hid (heap_alloc_new wr (.cells #[.string (pre k), .int .i64 z] 30))
      have HO3 := Lib.hid (HO2.out.alloc (.cells #[.string (pre k), .int .i64 z] 30))
      go_upto_region 5 with fail
      clear d0 d1
      generalize wr.alloc (.cells #[.string (pre k), .int .i64 z] 30) = w2 at *
      go_wp2_with (go_at_call 6; refine (kinds_any w2).mono ?_; rintro e w3 ⟨gk, ck, rfl, hgk, hrow, hsz, hnm, hb3⟩; have HK := Lib.hid (And.intro hrow (And.intro hsz hnm)); have HB5 := Lib.hid hb3; clear hrow hsz hnm hb3)
      have hsp := (HB5.out.block _ (Array.getElem?_eq_some_iff.1 HN.out).1).trans HN.out
      have HSP := Lib.hid hsp
      have HO4 : Hid (w3.ownsRow w.heap.size 9 1 u1 (1 + 17 * k) (names (1 + 17 * k))) := Lib.hid (by
        refine ⟨HO3.out.1, ?_⟩
        have hl := HO3.out.lt
        rcases HO3.out.2 with h' | ⟨g, cap, cur, rfl, q1, q2, q3⟩
        · exact .inl h'
        · exact .inr ⟨g, cap, cur, rfl, q1, by rw [HB5.out.block g (hl g rfl).2]; exact q2, q3⟩)
      have HB6 := Lib.hid (HB3.out.trans (HB5.out.mono HB3.out.size))
      clear hsp HO2 HO3 HB2 HB3 HB5 HN
      generalize wr.heap.size = bp at *
      go_loopw [15, 1] (fun i v wx => ∃ j : Nat, j ≤ 17 ∧ i = .int .i64 j ∧ wx.ownsRow w.heap.size 9 1 v (1 + 17 * k + j) (names (1 + 17 * k + j)) ∧ wx.heap[bp]? = some (.cells #[.string (pre k), .int .i64 z] 30 (0, 0)) ∧
        wx.heap[gk]? = some (.cells ck 37 (0, 0)) ∧ Below w.heap.size w wx) (fun i _ _ => 17 - (intOf i).toNat)
      case atStart => exact ⟨0, by omega, rfl, HO4.out, HSP.out, HK.out.1, HB6.out⟩
      case round =>
        obtain ⟨j, hj, rfl, hown, hsp, hrk, hb⟩ := hrel
        have HO5 := Lib.hid hown
        have HP5 := Lib.hid hsp
        have HR5 := Lib.hid hrk
        have HY5 := Lib.hid hb
        by_cases hlj : j < 17
        · have ps := cell_of_row wr bp 0 _ _ _ hsp
          simp at ps
          obtain ⟨n0, ⟨y1, n1⟩, ⟨y2, n2⟩, n3, ⟨a4, b4, c4, n4⟩, ⟨a5, b5, c5, n5⟩, ⟨y6, n6⟩⟩ := HK.out.2.2 j hlj
          have m0 := (cell_of_row wr gk (j * 7) _ _ _ hrk).trans n0
          have m1 := (cell_of_row wr gk (j * 7 + 1) _ _ _ hrk).trans n1
          have m2 := (cell_of_row wr gk (j * 7 + 2) _ _ _ hrk).trans n2
          have m4 := (cell_of_row wr gk (j * 7 + 4) _ _ _ hrk).trans n4
          have m5 := (cell_of_row wr gk (j * 7 + 5) _ _ _ hrk).trans n5
          have m6 := (cell_of_row wr gk (j * 7 + 6) _ _ _ hrk).trans n6
          have hname : Hid (pre k ++ nm j = name (1 + 17 * k + j)) := Lib.hid (name_at k j hlj).symm
          obtain ⟨y3, m3, oy⟩ : ∃ y3, wr.cell? ⟨gk, j * 7 + 3, none⟩ = some y3 ∧ y3.oneCell' = true := by
            rcases n3 with n3 | ⟨a3, b3, c3, n3⟩
            · exact ⟨_, (cell_of_row wr gk (j * 7 + 3) _ _ _ hrk).trans n3, rfl⟩
            · exact ⟨_, (cell_of_row wr gk (j * 7 + 3) _ _ _ hrk).trans n3, rfl⟩
          clear hown hsp hrk hb n0 n1 n2 n3 n4 n5 n6
          go_upto_region 7 with fail
          refine wp_region_lit ?_
          refine Step.p_index rfl _ _ _ _ rfl gk 0 17 17 rfl j rfl hlj 7 Tryz.underlying31 hi7 ?_
          simp only [Act.put, List.setIfInBounds_toArray, List.set_cons_zero, List.set_cons_succ]
          refine Step.p_wp rfl (wp_load_mid _ _ rfl gk (0 + j * 7) rfl [.string (nm j), .bool y1, .int .i64 y2, y3, .func a4 b4 c4, .func a5 b5 c5, .bool y6] _ (range7 m0 m1 m2 m3 m4 m5 m6) Tryz.underlying37 rfl hi7 ?_)
          simp only [Act.put, List.setIfInBounds_toArray, List.set_cons_zero, List.set_cons_succ]
          refine Step.p_wp rfl (Step.w_run (.pointer (some ⟨wr.heap.size, 0, none⟩)) (wr.alloc (.cells #[.string ⟨#[]⟩, .bool false, .int .i64 0, .nilFunc, .nilFunc, .nilFunc, .bool false] 37)) (by unfold execOp; go_simp) ?_)
          simp only [Act.put, List.setIfInBounds_toArray, List.set_cons_zero, List.set_cons_succ]
          refine wpList_store_row rfl _ _ _ rfl wr.heap.size _ rfl rfl 37 _ (heap_alloc_new wr _) hi7 rfl (by rw [← Array.all_toList]; simp only [List.all_cons, List.all_nil, oy, Bool.and_true]; rfl) ?_
          rw [World.setRow_alloc_new]
          simp only [Act.put]
          have q0 := heap_alloc_new wr (.cells [.string (nm j), .bool y1, .int .i64 y2, y3, .func a4 b4 c4, .func a5 b5 c5, .bool y6].toArray 37)
          have qk := (heap_alloc_old wr (.cells [.string (nm j), .bool y1, .int .i64 y2, y3, .func a4 b4 c4, .func a5 b5 c5, .bool y6].toArray 37) (Array.getElem?_eq_some_iff.1 HR5.out).1).trans HR5.out
          have qp := (heap_alloc_old wr (.cells [.string (nm j), .bool y1, .int .i64 y2, y3, .func a4 b4 c4, .func a5 b5 c5, .bool y6].toArray 37) (Array.getElem?_eq_some_iff.1 HP5.out).1).trans HP5.out
          have HO6 := Lib.hid (HO5.out.alloc (.cells [.string (nm j), .bool y1, .int .i64 y2, y3, .func a4 b4 c4, .func a5 b5 c5, .bool y6].toArray 37))
          have HY6 := Lib.hid (HY5.out.alloc HY5.out.size (.cells [.string (nm j), .bool y1, .int .i64 y2, y3, .func a4 b4 c4, .func a5 b5 c5, .bool y6].toArray 37))
          clear HO5 HP5 HR5 HY5 m0 m1 m2 m3 m4 m5 m6 oy ps
          generalize wr.alloc (.cells [.string (nm j), .bool y1, .int .i64 y2, y3, .func a4 b4 c4, .func a5 b5 c5, .bool y6].toArray 37) = w4 at *
          generalize wr.heap.size = bk at *
          have z0 := cell_of_row w4 bk 0 _ _ _ q0
          have z1 := cell_of_row w4 bp 0 _ _ _ qp
          simp at z0 z1
          have HQK := Lib.hid qk
          have HQP := Lib.hid qp
          clear q0 qk qp
          have g1 := pre_size k hlt
          have g2 := nm_size j hlj
          go_wp2_with (first | (at_builtin; refine wpList_append_own_at _ rfl _ _ 22 rfl w.heap.size 9 i0 (.string ⟨#[]⟩) 1 16 Tryz.underlying22 hi hz0 hz1 hz2 rfl (by decide) _ (1 + 17 * k + j) (names (1 + 17 * k + j)) rfl (HO6.out.alloc _) ⟨w4.heap.size, 0, none⟩ 1 1 [.string (pre k ++ nm j)] rfl rfl (cell_one_new _ _ _) ?_ (by unfold maxLen; omega) (by omega) ?_ ?_) | fail)
          · intro u hu; simp at hu; subst hu; rfl
          · have := HY6.out.size; simp; omega
          · intro v' w5 hown hgrow _ _
            rw [hname.out, names_succ] at hown
            have HO7 := Lib.hid hown
            have lk : gk < w4.heap.size := (Array.getElem?_eq_some_iff.1 HQK.out).1
            have lp : bp < w4.heap.size := (Array.getElem?_eq_some_iff.1 HQP.out).1
            have K5 := Lib.hid ((hgrow.block gk (by simp; omega) (own_ne HO6.out HQK.out (by decide))).trans ((heap_alloc_old w4 _ lk).trans HQK.out))
            have P5 := Lib.hid ((hgrow.block bp (by simp; omega) (own_ne HO6.out HQP.out (by decide))).trans ((heap_alloc_old w4 _ lp).trans HQP.out))
            have Y5 := Lib.hid ((HY6.out.alloc HY6.out.size _).grown hgrow (by have := HY6.out.size; simp; omega) (fun b hb => (HO6.out.lt b hb).1))
            clear hown hgrow HO6 HY6 HQK HQP z0 z1
            go_wp2_with fail
            go_roundw
            case rel => exact ⟨j + 1, by omega, rfl, HO7.out, P5.out, K5.out, Y5.out⟩
            case measure => simp [intOf]; omega
        · obtain rfl : j = 17 := by omega
          clear hown hsp hrk hb
          go_wp2
          go_roundw
          case rel => exact ⟨k + 1, by omega, rfl, by rw [show 1 + 17 * (k + 1) = 1 + 17 * k + 17 by omega]; exact HO5.out, HY5.out⟩
          case measure => simp [intOf]; omega
    · obtain rfl : k = 3 := by omega
      go_wp2
      go_ret
      exact ⟨_, rfl, HO2.out, HB2.out⟩
end Go.Proofs.YtphdiihlohcpfaaGreatDoor.Names
