import Derived.Test.YtmifebcaifbmoaaGreatDoorJ18
/- Md -/
section
namespace Go.Proofs.YtmifebcaifbmoaaGreatDoor.G
open Go.RowKit Go.Lib Go.Proofs.YtmifebcaifbmoaaGreatDoor.Blk Go.Proofs.YtmifebcaifbmoaaGreatDoor.Poly Go.Proofs.YtmifebcaifbmoaaGreatDoor.Field Go.Proofs.YtmifebcaifbmoaaGreatDoor.Tab Go.Proofs.YtmifebcaifbmoaaGreatDoor.Tw

/-- a cipher's blocks -/
structure RdW (k cb xb gk : Nat) (cs : Array Value) (w : World) : Prop where
  cb : ∃ sl un, w.heap[cb]? = some (.cells #[.pointer (some ⟨xb, 0, none⟩), .pointer (some ⟨gk, k * 7, none⟩), sl, un] 80 (0, 0))
  xb : w.heap[xb]? = some (.cells cs 96 (0, 0))
  kd : ∃ d, KindsAt gk d w
theorem RdW.kp {k cb xb gk : Nat} {cs : Array Value} {w w' : World} (h : RdW k cb xb gk cs w) (q : Kp w w') : RdW k cb xb gk cs w' := by
  obtain ⟨s, u, e⟩ := h.cb
  obtain ⟨d, hd⟩ := h.kd
  exact ⟨⟨s, u, q.cells e (by decide)⟩, q.cells h.xb (by decide), d, hd.kp q⟩
theorem RdW.c0 {k cb xb gk : Nat} {cs : Array Value} {w : World} (h : RdW k cb xb gk cs w) : w.cell? ⟨cb, 0, none⟩ = some (.pointer (some ⟨xb, 0, none⟩)) := by
  obtain ⟨s, u, e⟩ := h.cb
  rw [cell_of_row w _ _ _ _ _ e]
  rfl
theorem RdW.c1 {k cb xb gk : Nat} {cs : Array Value} {w : World} (h : RdW k cb xb gk cs w) : w.cell? ⟨cb, 1, none⟩ = some (.pointer (some ⟨gk, k * 7, none⟩)) := by
  obtain ⟨s, u, e⟩ := h.cb
  rw [cell_of_row w _ _ _ _ _ e]
  rfl
theorem kind3 (d : Nat) : ∀ k, k < 17 → (kindL d k)[3]? = (kindL 0 k)[3]?
  | 0, _ | 1, _ | 2, _ | 3, _ | 4, _ | 5, _ | 6, _ | 7, _ | 8, _ | 9, _ | 10, _ | 11, _ | 12, _ | 13, _ | 14, _ | 15, _ | 16, _ => rfl
  | k + 17, hk => absurd hk (by omega)
theorem RdW.ks {k cb xb gk : Nat} {cs : Array Value} {w : World} (h : RdW k cb xb gk cs w) (hk : k < 17) {v : Value} (hv : (kindL 0 k)[3]? = some v) : w.cell? ⟨gk, k * 7 + 3, none⟩ = some v := by
  obtain ⟨d, hd⟩ := h.kd
  exact hd.c k hk 3 v ((kind3 d k hk).trans hv)
theorem RdW.cx {k cb xb gk : Nat} {cs : Array Value} {w : World} (h : RdW k cb xb gk cs w) {i : Nat} {v : Value} (hv : cs[i]? = some v) : w.cell? ⟨xb, i, none⟩ = some v := by
  rw [cell_of_row w _ _ _ _ _ h.xb]
  exact hv
/-- all that a mode's function leans on -/
structure Md (k cb xb gk : Nat) (E D A : Nat → Nat) (two : Bool) (fl wh : Nat → Nat) (cs : Array Value) (iv : Nat → Nat → Nat) (w : World) : Prop where
  hk : k < 17
  rd : RdW k cb xb gk cs w
  ky : KeyR E D A two fl wh cs w
  st : ∀ sf, (kindL 0 k)[3]? = some (fv sf) → FnOk sf ∧ StAt sf xb iv w
theorem Md.kp {k cb xb gk : Nat} {E D A : Nat → Nat} {two : Bool} {fl wh : Nat → Nat} {cs : Array Value} {iv : Nat → Nat → Nat} {w w' : World} (h : Md k cb xb gk E D A two fl wh cs iv w) (q : Kp w w') : Md k cb xb gk E D A two fl wh cs iv w' :=
  ⟨h.hk, h.rd.kp q, h.ky.kq q.q, fun sf e => ⟨(h.st sf e).1, (h.st sf e).2.kp q⟩⟩
end Go.Proofs.YtmifebcaifbmoaaGreatDoor.G
end
