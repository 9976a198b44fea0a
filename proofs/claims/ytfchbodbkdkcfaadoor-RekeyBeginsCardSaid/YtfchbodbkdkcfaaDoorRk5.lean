/- rekey.epoch and the document's epochs: how many epochs bear a number. -/
import Derived.Test.YtfchbodbkdkcfaaDoorRk4
import Derived.Test.YtfchbodbkdkcfaaDoorSame0
namespace Go.Proofs.YtfchbodbkdkcfaaDoor.Rk
open Go.RowKit Go.Lib Go.Proofs.YtfchbodbkdkcfaaDoor.Coll Go.Proofs.YtfchbodbkdkcfaaDoor.Meta

def cntK (L : List EpochD) (x : Int) (k : Nat) : Nat := ((L.take k).filter fun d => d.num == x).length
def cntE (L : List EpochD) (x : Int) : Nat := cntK L x L.length
theorem cntK_le (L : List EpochD) (x : Int) (k : Nat) : cntK L x k ≤ k := Nat.le_trans (List.length_filter_le _ _) (by simp; omega)
theorem cntK_succ (L : List EpochD) (x : Int) (k : Nat) (h : k < L.length) : cntK L x (k + 1) = cntK L x k + if (L[k]'h).num = x then 1 else 0 := by
  unfold cntK
  rw [List.take_add_one, List.getElem?_eq_getElem h, List.filter_append, List.length_append]
  congr 1
  simp only [Option.toList_some, List.filter_cons, List.filter_nil, beq_iff_eq]
  split <;> simp

set_option maxRecDepth 100000 in
set_option maxHeartbeats 4000000 in
theorem epochs_any (m : MetaD) (p : Places) (x : Int) (w : World) (h : LV epochC w p.qe m.epochs) (hl : m.epochs.length ≤ 9223372036854775807) :
    Calls Tryd.prog 70 #[metaV m p, .int .u64 x] w fun e w' => e = .returned (.int .i64 (cntE m.epochs x)) ∧ Below w.heap.size w w' := by
  have HE := Lib.hid h
  have CS := Lib.hid (cntK_succ m.epochs x)
  have CL := Lib.hid (cntK_le m.epochs x)
  have C0 : cntK m.epochs x 0 = 0 := by simp [cntK]
  clear h
  rw [metaV_eq]
  have c12 : (metaA m p)[12]? = some (.slice p.qe m.epochs.length p.ke) := rfl
  generalize metaA m p = cs at *
  go_enter Tryd.func70, Tryd.ntmps70
  go_upto_region 1 with fail
  have b1 : Below w.heap.size w (w.alloc (.cells cs 56)) := (Below.refl _ _).alloc (Nat.le_refl _) _
  have o1 := heap_alloc_new w (.cells cs 56)
  generalize w.alloc (.cells cs 56) = w1 at *
  have hl1 := (Array.getElem?_eq_some_iff.1 o1).1
  have X12 := Lib.hid ((cell_of_row _ _ 12 _ _ _ o1).trans c12)
  have B1 := Lib.hid b1
  have HE1 := Lib.hid (HE.out.below b1)
  clear o1 c12 b1 HE
  go_wp2
  go_loopw [6, 5] (fun i c wr => ∃ k : Nat, k ≤ m.epochs.length ∧ i = .int .i64 k ∧ c = .int .i64 (cntK m.epochs x k) ∧ Below w1.heap.size w1 wr) (fun i _ _ => m.epochs.length - (intOf i).toNat)
  case atStart => exact ⟨0, by omega, rfl, by rw [C0]; rfl, Below.refl _ _⟩
  case round =>
    obtain ⟨k, hk, rfl, rfl, hb⟩ := hrel
    have HB := Lib.hid hb
    have x12 := (hb.cell (p := ⟨w.heap.size, 12, none⟩) hl1).trans X12.out
    have ck := CL.out k
    by_cases hlt : k < m.epochs.length
    · obtain ⟨ge, oe, hq, E⟩ := lv_cells (sz := 5) (fun _ => rfl) (by decide) (HE1.out.below hb) k hlt
      have e0 := E 0 _ rfl
      have cc := CS.out k hlt
      rw [Nat.add_zero] at e0
      rw [hq] at x12
      generalize (m.epochs[k]'hlt).num = y at e0 cc
      have CC := Lib.hid cc
      clear E hq hb cc
      generalize cntK m.epochs x k = cn at *
      by_cases hy : y = x
      · subst hy
        go_wp2
        go_roundw
        case rel => exact ⟨k + 1, by omega, rfl, by rw [CC.out]; simp, HB.out⟩
        case measure => simp [intOf]; omega
      · have hyb : (y == x) = false := by simp [hy]
        go_wp2
        go_roundw
        case rel => exact ⟨k + 1, by omega, rfl, by rw [CC.out]; simp [hy], HB.out⟩
        case measure => simp [intOf]; omega
    · obtain rfl : k = m.epochs.length := by omega
      clear hb
      go_wp2
      go_ret
      exact ⟨rfl, B1.out.trans (HB.out.mono B1.out.size)⟩
end Go.Proofs.YtfchbodbkdkcfaaDoor.Rk
