/- ledger.Segments and the document's: what any rotation makes of the data. -/
import Derived.Test.YtfchbodbkdkcfaaDoorFill3
import Derived.Test.YtfchbodbkdkcfaaDoorShapes
namespace Go.Proofs.YtfchbodbkdkcfaaDoor.Fill
open Go.RowKit Go.Lib Go.Proofs.YtfchbodbkdkcfaaDoor.Coll Go.Proofs.YtfchbodbkdkcfaaDoor.Meta Go.Proofs.YtfchbodbkdkcfaaDoor.Shapes Go.Proofs.YtfchbodbkdkcfaaDoor.Rooms

def lastNum (L : List EpochD) : Int := (L.getLast?.map (·.num)).getD 0
/-- what any rotation makes of the data -/
def segsOf (m : MetaD) : List Sg :=
  if sectE m.unit m.count m.head m.keys ≠ 0 ∨ m.epochs.length = 0 then [] else
  if m.rot.on = false then [(0, sectN m.unit m.count m.head m.keys, lastNum m.epochs)] else
  if sectN m.unit m.count m.head m.keys < m.rot.done then [] else
  if m.rot.back then sgF (0, sectN m.unit m.count m.head m.keys - m.rot.done, m.rot.fr) (sectN m.unit m.count m.head m.keys - m.rot.done, m.rot.done, m.rot.tn)
  else sgF (0, m.rot.done, m.rot.tn) (m.rot.done, sectN m.unit m.count m.head m.keys - m.rot.done, m.rot.fr)
theorem sectN_bd (u c h k : Int) : 0 ≤ sectN u c h k ∧ sectN u c h k ≤ 4294967296 := by
  cases hk : shapeOk u c h k with
  | false => simp [sectN, hk]
  | true =>
    rw [(shape_yes u c h k hk).1]
    simp only [shapeOk, Bool.and_eq_true, decide_eq_true_eq] at hk
    obtain ⟨⟨⟨⟨⟨⟨hu, hh⟩, h1⟩, h2⟩, h3⟩, h4⟩, h5⟩ := hk
    have b1 := unit_bd hu
    have b2 := head_bd h hh
    have b3 : 0 ≤ (2 * h + k) / u := Int.ediv_nonneg (by omega) (by omega)
    omega
theorem two_new (X : World) (g : Nat) (x y : Sg) (hg : X.heap.size = g) : Two ((X.alloc (.cells (sgC x ++ sgC y).toArray 92)).drew) g x y := by
  subst hg
  exact ⟨_, heap_alloc_new X _, Nat.le_refl 6, rfl⟩
theorem one_new (X : World) (B g : Nat) (x : Sg) (hg : X.heap.size = g) (hB : B ≤ g) : SegV (X.alloc (.cells (sgC x).toArray 92)) B (.slice (some ⟨g, 0, none⟩) 1 1) [x] := by
  subst hg
  exact .inr ⟨_, _, rfl, hB, heap_alloc_new X _, Nat.le_refl 3, by simp [sgL, sgC]⟩
/-- what Segments reads -/
structure SIn (w : World) (m : MetaD) (p : Places) : Prop where
  e : LV epochC w p.qe m.epochs
  len : m.epochs.length ≤ 9223372036854775807
  r : MR m
theorem SIn.below {w w' : World} {m : MetaD} {p : Places} (h : SIn w m p) (hb : Below w.heap.size w w') : SIn w' m p := ⟨h.e.below hb, h.len, h.r⟩

set_option maxRecDepth 100000 in
set_option maxHeartbeats 4000000 in
theorem segs_any (m : MetaD) (p : Places) (w : World) (h : SIn w m p) (ht : Table 1 w) (hg : 1 < w.heap.size) :
    Calls Tryd.prog 26 #[metaV m p] w fun e w' => ∃ v, e = .returned v ∧ SegV w' w.heap.size v (segsOf m) ∧ Below w.heap.size w w' := by
  obtain ⟨L, hL⟩ : ∃ L, segsOf m = L := ⟨_, rfl⟩
  rw [hL]
  have HS := Lib.hid hL
  have H := Lib.hid h
  have hl := h.len
  clear hL h
  rw [metaV_eq]
  have c4 : (metaA m p)[4]? = some (.int .i64 m.unit) := rfl
  have c5 : (metaA m p)[5]? = some (.int .u64 m.count) := rfl
  have c6 : (metaA m p)[6]? = some (.int .i64 m.head) := rfl
  have c7 : (metaA m p)[7]? = some (.int .i64 m.keys) := rfl
  have c12 : (metaA m p)[12]? = some (.slice p.qe m.epochs.length p.ke) := rfl
  have c14 : (metaA m p)[14]? = some (.bool m.rot.on) := rfl
  have c15 : (metaA m p)[15]? = some (.int .u64 m.rot.fr) := rfl
  have c16 : (metaA m p)[16]? = some (.int .u64 m.rot.tn) := rfl
  have c17 : (metaA m p)[17]? = some (.bool m.rot.back) := rfl
  have c18 : (metaA m p)[18]? = some (.int .i64 m.rot.mode) := rfl
  have c19 : (metaA m p)[19]? = some (.int .u64 m.rot.hot) := rfl
  have c20 : (metaA m p)[20]? = some (.int .u64 m.rot.done) := rfl
  have c21 : (metaA m p)[21]? = some (.int .i64 m.rot.off) := rfl
  have c22 : (metaA m p)[22]? = some (.int .i64 m.rot.size) := rfl
  have c23 : (metaA m p)[23]? = some (.bool m.rot.active) := rfl
  have c24 : (metaA m p)[24]? = some (.int .u64 m.rot.count) := rfl
  have c25 : (metaA m p)[25]? = some (.string m.rot.sum) := rfl
  generalize metaA m p = cs at *
  have C4 := Lib.hid c4
  have C5 := Lib.hid c5
  have C6 := Lib.hid c6
  have C7 := Lib.hid c7
  have C12 := Lib.hid c12
  have C14 := Lib.hid c14
  have C15 := Lib.hid c15
  have C16 := Lib.hid c16
  have C17 := Lib.hid c17
  have C18 := Lib.hid c18
  have C19 := Lib.hid c19
  have C20 := Lib.hid c20
  have C21 := Lib.hid c21
  have C22 := Lib.hid c22
  have C23 := Lib.hid c23
  have C24 := Lib.hid c24
  have C25 := Lib.hid c25
  clear c4 c5 c6 c7 c12 c14 c15 c16 c17 c18 c19 c20 c21 c22 c23 c24 c25
  go_enter Tryd.func26, Tryd.ntmps26
  go_upto_region 1 with fail
  have hb1 : Below w.heap.size w (w.alloc (.cells cs 56)) := (Below.refl _ _).alloc (Nat.le_refl _) _
  have o1 := heap_alloc_new w (.cells cs 56)
  generalize w.alloc (.cells cs 56) = w1 at *
  have x4 := (cell_of_row _ _ 4 _ _ _ o1).trans C4.out
  have x5 := (cell_of_row _ _ 5 _ _ _ o1).trans C5.out
  have x6 := (cell_of_row _ _ 6 _ _ _ o1).trans C6.out
  have x7 := (cell_of_row _ _ 7 _ _ _ o1).trans C7.out
  go_wp2_with fail
  clear x4 x5 x6 x7
  have rc : 0 ≤ m.count ∧ m.count ≤ 18446744073709551615 := H.out.r.count
  have rh : -9223372036854775808 ≤ m.head ∧ m.head ≤ 9223372036854775807 := H.out.r.head
  have rk : -9223372036854775808 ≤ m.keys ∧ m.keys ≤ 9223372036854775807 := H.out.r.keys
  have rd : 0 ≤ m.rot.done ∧ m.rot.done ≤ 18446744073709551615 := H.out.r.done
  refine (sectors_any m.unit m.count m.head m.keys w1 (fun i hi => (hb1.cell (p := ⟨1, i, none⟩) hg).trans (ht i hi)) (Nat.lt_of_lt_of_le hg hb1.size) (by omega) (by omega) (by omega) (by omega) (by omega) (by omega)).mono ?_
  rintro e w2 ⟨rfl, hb2⟩
  have HB2 := Lib.hid (hb1.trans (hb2.mono hb1.size))
  have o2 := (hb2.block _ (Array.getElem?_eq_some_iff.1 o1).1).trans o1
  have nb := sectN_bd m.unit m.count m.head m.keys
  have eb : sectE m.unit m.count m.head m.keys = 0 ∨ sectE m.unit m.count m.head m.keys = 90 := by unfold sectE; split <;> simp
  unfold segsOf at HS
  generalize sectN m.unit m.count m.head m.keys = n at *
  generalize sectE m.unit m.count m.head m.keys = er at *
  clear hb1 hb2 o1 ht hg rc rh rk
  have x12 := (cell_of_row _ _ 12 _ _ _ o2).trans C12.out
  have x14 := (cell_of_row _ _ 14 _ _ _ o2).trans C14.out
  have x15 := (cell_of_row _ _ 15 _ _ _ o2).trans C15.out
  have x16 := (cell_of_row _ _ 16 _ _ _ o2).trans C16.out
  have x17 := (cell_of_row _ _ 17 _ _ _ o2).trans C17.out
  have x18 := (cell_of_row _ _ 18 _ _ _ o2).trans C18.out
  have x19 := (cell_of_row _ _ 19 _ _ _ o2).trans C19.out
  have x20 := (cell_of_row _ _ 20 _ _ _ o2).trans C20.out
  have x21 := (cell_of_row _ _ 21 _ _ _ o2).trans C21.out
  have x22 := (cell_of_row _ _ 22 _ _ _ o2).trans C22.out
  have x23 := (cell_of_row _ _ 23 _ _ _ o2).trans C23.out
  have x24 := (cell_of_row _ _ 24 _ _ _ o2).trans C24.out
  have x25 := (cell_of_row _ _ 25 _ _ _ o2).trans C25.out
  have hl1 : w.heap.size < w2.heap.size := (Array.getElem?_eq_some_iff.1 o2).1
  clear o2
  have HE := Lib.hid (H.out.e.below HB2.out)
  rcases eb with rfl | rfl
  · by_cases hz : m.epochs.length = 0
    · have hL : L = [] := by rw [← HS.out]; simp [hz]
      go_wp2
      go_ret
      exact ⟨_, rfl, .inl ⟨rfl, hL⟩, HB2.out⟩
    · obtain ⟨rot, hrot⟩ : ∃ r, m.rot = r := ⟨_, rfl⟩
      rw [hrot] at HS rd x14 x15 x16 x17 x18 x19 x20 x21 x22 x23 x24 x25
      obtain ⟨on, fr, tn, back, mode, hot, done, off, size, active, count, sum⟩ := rot
      simp only at HS rd x14 x15 x16 x17 x18 x19 x20 x21 x22 x23 x24 x25
      cases on with
      | false =>
        obtain ⟨k, hk⟩ : ∃ k, m.epochs.length = k + 1 := ⟨m.epochs.length - 1, by omega⟩
        obtain ⟨ge, oe, hq, E⟩ := lv_cells (sz := 5) (fun _ => rfl) (by decide) HE.out k (by omega)
        have e0 := E 0 _ rfl
        have hL : L = [(0, n, lastNum m.epochs)] := by rw [← HS.out]; simp [hz]
        have hlast : lastNum m.epochs = (m.epochs[k]'(by omega)).num := by
          have h1 : m.epochs.length - 1 = k := by omega
          simp only [lastNum, List.getLast?_eq_getElem?, h1, List.getElem?_eq_getElem (show k < m.epochs.length by omega), Option.map_some, Option.getD_some]
        rw [← hlast, Nat.add_zero] at e0
        generalize lastNum m.epochs = last at *
        have hge := Frame.block_lt e0
        clear E hlast
        rw [hq, hk] at x12
        have HL := Lib.hid hL
        clear hL
        go_wp2
        go_ret
        rw [HL.out]
        have hs := HB2.out.size
        exact ⟨_, rfl, one_new _ _ _ (0, n, last) (by simp) (by omega), (HB2.out.alloc hs _).alloc (by simp; omega) _⟩
      | true =>
        by_cases hd : n < done
        · have hL : L = [] := by rw [← HS.out]; simp [hz, hd]
          go_wp2
          go_ret
          exact ⟨_, rfl, .inl ⟨rfl, hL⟩, HB2.out.alloc HB2.out.size _⟩
        · cases back with
          | false =>
            have hL : L = sgF (0, done, tn) (done, n - done, fr) := by rw [← HS.out]; simp [hz, hd]
            have HL := Lib.hid hL
            have hs := HB2.out.size
            clear hL
            go_upto_region 9 with fail
            go_region
            all_goals
              go_wp2_with fail
              refine (filled_any (w2.heap.size + 1 + 1 + 1) 2 (0, done, tn) (done, n - done, fr) _ (two_new _ _ (0, done, tn) (done, n - done, fr) (by simp))).mono ?_
              rintro e w3 ⟨v, rfl, hv, hb3⟩
              have HV := Lib.hid (hv.mono (B' := w.heap.size) (by simp; omega))
              have HB := Lib.hid (((((HB2.out.alloc hs _).alloc (by simp; omega) _).alloc (by simp; omega) _).alloc (by simp; omega) _).drew.trans (hb3.mono (by simp; omega)))
              clear hv hb3
              go_wp2
              go_ret
              exact ⟨_, rfl, by rw [HL.out]; exact HV.out, HB.out⟩
          | true =>
            have hL : L = sgF (0, n - done, fr) (n - done, done, tn) := by rw [← HS.out]; simp [hz, hd]
            have HL := Lib.hid hL
            have hs := HB2.out.size
            clear hL
            go_upto_region 9 with fail
            go_region
            all_goals
              go_wp2_with fail
              refine (filled_any (w2.heap.size + 1 + 1 + 1) 2 (0, n - done, fr) (n - done, done, tn) _ (two_new _ _ (0, n - done, fr) (n - done, done, tn) (by simp))).mono ?_
              rintro e w3 ⟨v, rfl, hv, hb3⟩
              have HV := Lib.hid (hv.mono (B' := w.heap.size) (by simp; omega))
              have HB := Lib.hid (((((HB2.out.alloc hs _).alloc (by simp; omega) _).alloc (by simp; omega) _).alloc (by simp; omega) _).drew.trans (hb3.mono (by simp; omega)))
              clear hv hb3
              go_wp2
              go_ret
              exact ⟨_, rfl, by rw [HL.out]; exact HV.out, HB.out⟩
  · have hL : L = [] := by rw [← HS.out]; simp
    go_wp2
    go_ret
    exact ⟨_, rfl, .inl ⟨rfl, hL⟩, HB2.out⟩
end Go.Proofs.YtfchbodbkdkcfaaDoor.Fill
