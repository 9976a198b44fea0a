/- Parts of the proof of TweakBlocks. Aes: AES: the tables, and the facts that walks of them ask. No Go here. Frame: The frame of a law's row: from a walk that ends in 'true' and leaves old memory alone to the row. General lemmas, no program in sight. Blk: Arrays of numbers in memory: a block known whole by a function of the place. General lemmas. Word: Words of four bytes, as numbers; the walk's forms of their operations. No Go here. Cipher: AES' rounds on bytes, as the program and as the document reckon them, and that one undoes the other. No Go here. -/
import Derived.Laws.BitsLemmas
import Derived.KernelRfl
import Derived.WalkKit
import Derived.ProofKit
import Derived.LaidMore
import Derived.OpenShut
import Derived.Stop.Joined
import Derived.ChangeOld
import Derived.Below
import Derived.SizedLaws
import Derived.SevenTiedAt
import Derived.Lib.SmallJoins
import Derived.Lib.Hide
import Derived.Outline
import Derived.IntWalk
import Derived.Deep.QuietTactic
import Derived.BigQuiet
import Derived.BigRegion
import Derived.RegionTactic
import Derived.WalkSpells
import Derived.WalkSmall
import Derived.Laws.Rows
import Derived.Laws.Tables
import Derived.Laws.NewBlocks
import Derived.Laws.Bits64
import Derived.Deep.MidRow
import Derived.Deep.RegionHeld3
namespace Go.Proofs.YtmifebcaifbmoaaGreatDoor
theorem sA9 {α : Type} (l : List α) (i : Nat) (x : α) : l.toArray.setIfInBounds i x = (l.set i x).toArray := List.setIfInBounds_toArray ..
theorem sB9 {α : Type} {x y : α} {l : List α} : (x :: l).set 0 y = y :: l := rfl
theorem sC9 {α : Type} {x y : α} {l : List α} {n : Nat} : (x :: l).set (n + 1) y = x :: l.set n y := rfl
end Go.Proofs.YtmifebcaifbmoaaGreatDoor
/- Aes -/
section
namespace Go.Proofs.YtmifebcaifbmoaaGreatDoor.Aes

/-- the product with x in the field of 256 elements -/
def xt (a : Nat) : Nat := (a * 2 % 256) ^^^ (if 128 ≤ a then 27 else 0)
def gmL : Nat → Nat → Nat → Nat → Nat
  | 0, _, _, p => p
  | n + 1, a, b, p => gmL n (xt a) (b / 2) (if b % 2 = 1 then p ^^^ a else p)
/-- the product -/
def gm (a b : Nat) : Nat := gmL 8 a b 0
theorem gmL_zero : ∀ (n a p : Nat), gmL n a 0 p = p
  | 0, _, _ => rfl
  | n + 1, a, p => by rw [gmL]; exact gmL_zero n _ _
theorem xor_lt {a b : Nat} (ha : a < 256) (hb : b < 256) : a ^^^ b < 256 := Nat.xor_lt_two_pow (n := 8) ha hb
theorem xt_lt (a : Nat) : xt a < 256 := xor_lt (Nat.mod_lt _ (by decide)) (by split <;> decide)
theorem gmL_lt : ∀ (n a b p : Nat), a < 256 → p < 256 → gmL n a b p < 256
  | 0, _, _, _, _, hp => hp
  | n + 1, a, b, p, ha, hp => by
    rw [gmL]
    refine gmL_lt n _ _ _ (xt_lt a) ?_
    split
    · exact xor_lt hp ha
    · exact hp
theorem gm_lt (a b : Nat) (ha : a < 256) : gm a b < 256 := gmL_lt 8 a b 0 ha (by decide)
/-- the powers of a generator, and those of its inverse -/
def pL : List Nat := [1, 3, 5, 15, 17, 51, 85, 255, 26, 46, 114, 150, 161, 248, 19, 53, 95, 225, 56, 72, 216, 115, 149, 164, 247, 2, 6, 10, 30, 34, 102, 170, 229, 52, 92, 228, 55, 89, 235, 38, 106, 190, 217, 112, 144, 171, 230, 49, 83, 245, 4, 12, 20, 60, 68, 204, 79, 209, 104, 184, 211, 110, 178, 205, 76, 212, 103, 169, 224, 59, 77, 215, 98, 166, 241, 8, 24, 40, 120, 136, 131, 158, 185, 208, 107, 189, 220, 127, 129, 152, 179, 206, 73, 219, 118, 154, 181, 196, 87, 249, 16, 48, 80, 240, 11, 29, 39, 105, 187, 214, 97, 163, 254, 25, 43, 125, 135, 146, 173, 236, 47, 113, 147, 174, 233, 32, 96, 160, 251, 22, 58, 78, 210, 109, 183, 194, 93, 231, 50, 86, 250, 21, 63, 65, 195, 94, 226, 61, 71, 201, 64, 192, 91, 237, 44, 116, 156, 191, 218, 117, 159, 186, 213, 100, 172, 239, 42, 126, 130, 157, 188, 223, 122, 142, 137, 128, 155, 182, 193, 88, 232, 35, 101, 175, 234, 37, 111, 177, 200, 67, 197, 84, 252, 31, 33, 99, 165, 244, 7, 9, 27, 45, 119, 153, 176, 203, 70, 202, 69, 207, 74, 222, 121, 139, 134, 145, 168, 227, 62, 66, 198, 81, 243, 14, 18, 54, 90, 238, 41, 123, 141, 140, 143, 138, 133, 148, 167, 242, 13, 23, 57, 75, 221, 124, 132, 151, 162, 253, 28, 36, 108, 180, 199, 82, 246, 1]
def qL : List Nat := [1, 246, 82, 199, 180, 108, 36, 28, 253, 162, 151, 132, 124, 221, 75, 57, 23, 13, 242, 167, 148, 133, 138, 143, 140, 141, 123, 41, 238, 90, 54, 18, 14, 243, 81, 198, 66, 62, 227, 168, 145, 134, 139, 121, 222, 74, 207, 69, 202, 70, 203, 176, 153, 119, 45, 27, 9, 7, 244, 165, 99, 33, 31, 252, 84, 197, 67, 200, 177, 111, 37, 234, 175, 101, 35, 232, 88, 193, 182, 155, 128, 137, 142, 122, 223, 188, 157, 130, 126, 42, 239, 172, 100, 213, 186, 159, 117, 218, 191, 156, 116, 44, 237, 91, 192, 64, 201, 71, 61, 226, 94, 195, 65, 63, 21, 250, 86, 50, 231, 93, 194, 183, 109, 210, 78, 58, 22, 251, 160, 96, 32, 233, 174, 147, 113, 47, 236, 173, 146, 135, 125, 43, 25, 254, 163, 97, 214, 187, 105, 39, 29, 11, 240, 80, 48, 16, 249, 87, 196, 181, 154, 118, 219, 73, 206, 179, 152, 129, 127, 220, 189, 107, 208, 185, 158, 131, 136, 120, 40, 24, 8, 241, 166, 98, 215, 77, 59, 224, 169, 103, 212, 76, 205, 178, 110, 211, 184, 104, 209, 79, 204, 68, 60, 20, 12, 4, 245, 83, 49, 230, 171, 144, 112, 217, 190, 106, 38, 235, 89, 55, 228, 92, 52, 229, 170, 102, 34, 30, 10, 6, 2, 247, 164, 149, 115, 216, 72, 56, 225, 95, 53, 19, 248, 161, 150, 114, 46, 26, 255, 85, 51, 17, 15, 5, 3, 1]
/-- the place of a byte among the powers -/
def lgL : List Nat := [0, 255, 25, 1, 50, 2, 26, 198, 75, 199, 27, 104, 51, 238, 223, 3, 100, 4, 224, 14, 52, 141, 129, 239, 76, 113, 8, 200, 248, 105, 28, 193, 125, 194, 29, 181, 249, 185, 39, 106, 77, 228, 166, 114, 154, 201, 9, 120, 101, 47, 138, 5, 33, 15, 225, 36, 18, 240, 130, 69, 53, 147, 218, 142, 150, 143, 219, 189, 54, 208, 206, 148, 19, 92, 210, 241, 64, 70, 131, 56, 102, 221, 253, 48, 191, 6, 139, 98, 179, 37, 226, 152, 34, 136, 145, 16, 126, 110, 72, 195, 163, 182, 30, 66, 58, 107, 40, 84, 250, 133, 61, 186, 43, 121, 10, 21, 155, 159, 94, 202, 78, 212, 172, 229, 243, 115, 167, 87, 175, 88, 168, 80, 244, 234, 214, 116, 79, 174, 233, 213, 231, 230, 173, 232, 44, 215, 117, 122, 235, 22, 11, 245, 89, 203, 95, 176, 156, 169, 81, 160, 127, 12, 246, 111, 23, 196, 73, 236, 216, 67, 31, 45, 164, 118, 123, 183, 204, 187, 62, 90, 251, 96, 177, 134, 59, 82, 161, 108, 170, 85, 41, 157, 151, 178, 135, 144, 97, 190, 220, 252, 188, 149, 207, 205, 55, 63, 91, 209, 83, 57, 132, 60, 65, 162, 109, 71, 20, 42, 158, 93, 86, 242, 211, 171, 68, 17, 146, 217, 35, 32, 46, 137, 180, 124, 184, 38, 119, 153, 227, 165, 103, 74, 237, 222, 197, 49, 254, 24, 13, 99, 140, 128, 192, 247, 112, 7]
def sL : List Nat := [99, 124, 119, 123, 242, 107, 111, 197, 48, 1, 103, 43, 254, 215, 171, 118, 202, 130, 201, 125, 250, 89, 71, 240, 173, 212, 162, 175, 156, 164, 114, 192, 183, 253, 147, 38, 54, 63, 247, 204, 52, 165, 229, 241, 113, 216, 49, 21, 4, 199, 35, 195, 24, 150, 5, 154, 7, 18, 128, 226, 235, 39, 178, 117, 9, 131, 44, 26, 27, 110, 90, 160, 82, 59, 214, 179, 41, 227, 47, 132, 83, 209, 0, 237, 32, 252, 177, 91, 106, 203, 190, 57, 74, 76, 88, 207, 208, 239, 170, 251, 67, 77, 51, 133, 69, 249, 2, 127, 80, 60, 159, 168, 81, 163, 64, 143, 146, 157, 56, 245, 188, 182, 218, 33, 16, 255, 243, 210, 205, 12, 19, 236, 95, 151, 68, 23, 196, 167, 126, 61, 100, 93, 25, 115, 96, 129, 79, 220, 34, 42, 144, 136, 70, 238, 184, 20, 222, 94, 11, 219, 224, 50, 58, 10, 73, 6, 36, 92, 194, 211, 172, 98, 145, 149, 228, 121, 231, 200, 55, 109, 141, 213, 78, 169, 108, 86, 244, 234, 101, 122, 174, 8, 186, 120, 37, 46, 28, 166, 180, 198, 232, 221, 116, 31, 75, 189, 139, 138, 112, 62, 181, 102, 72, 3, 246, 14, 97, 53, 87, 185, 134, 193, 29, 158, 225, 248, 152, 17, 105, 217, 142, 148, 155, 30, 135, 233, 206, 85, 40, 223, 140, 161, 137, 13, 191, 230, 66, 104, 65, 153, 45, 15, 176, 84, 187, 22]
def uL : List Nat := [82, 9, 106, 213, 48, 54, 165, 56, 191, 64, 163, 158, 129, 243, 215, 251, 124, 227, 57, 130, 155, 47, 255, 135, 52, 142, 67, 68, 196, 222, 233, 203, 84, 123, 148, 50, 166, 194, 35, 61, 238, 76, 149, 11, 66, 250, 195, 78, 8, 46, 161, 102, 40, 217, 36, 178, 118, 91, 162, 73, 109, 139, 209, 37, 114, 248, 246, 100, 134, 104, 152, 22, 212, 164, 92, 204, 93, 101, 182, 146, 108, 112, 72, 80, 253, 237, 185, 218, 94, 21, 70, 87, 167, 141, 157, 132, 144, 216, 171, 0, 140, 188, 211, 10, 247, 228, 88, 5, 184, 179, 69, 6, 208, 44, 30, 143, 202, 63, 15, 2, 193, 175, 189, 3, 1, 19, 138, 107, 58, 145, 17, 65, 79, 103, 220, 234, 151, 242, 207, 206, 240, 180, 230, 115, 150, 172, 116, 34, 231, 173, 53, 133, 226, 249, 55, 232, 28, 117, 223, 110, 71, 241, 26, 113, 29, 41, 197, 137, 111, 183, 98, 14, 170, 24, 190, 27, 252, 86, 62, 75, 198, 210, 121, 32, 154, 219, 192, 254, 120, 205, 90, 244, 31, 221, 168, 51, 136, 7, 199, 49, 177, 18, 16, 89, 39, 128, 236, 95, 96, 81, 127, 169, 25, 181, 74, 13, 45, 229, 122, 159, 147, 201, 156, 239, 160, 224, 59, 77, 174, 42, 245, 176, 200, 235, 187, 60, 131, 83, 153, 97, 23, 43, 4, 126, 186, 119, 214, 38, 225, 105, 20, 99, 85, 33, 12, 125]
def pw (i : Nat) : Nat := pL.getD i 0
def qw (i : Nat) : Nat := qL.getD i 0
def lg (i : Nat) : Nat := lgL.getD i 0
/-- the substitution, and its inverse -/
def S (i : Nat) : Nat := sL.getD i 0
def U (i : Nat) : Nat := uL.getD i 0
/-- the turn of a byte's bits -/
def trn (b n : Nat) : Nat := b * 2 ^ n % 256 ||| b / 2 ^ (8 - n)
def aff (q : Nat) : Nat := q ^^^ trn q 1 ^^^ trn q 2 ^^^ trn q 3 ^^^ trn q 4 ^^^ 99
theorem pw_succ : ∀ i, i < 255 → pw (i + 1) = gm (pw i) 3 := by decide +kernel
theorem qw_succ : ∀ i, i < 255 → qw (i + 1) = gm (qw i) 246 := by decide +kernel
theorem pw_lt : ∀ i, i < 256 → pw i < 256 := by decide +kernel
theorem qw_lt : ∀ i, i < 256 → qw i < 256 := by decide +kernel
theorem pw_ne : ∀ i, i < 255 → 0 < i → pw i ≠ 1 := by decide +kernel
theorem S_pw : ∀ i, i < 256 → 0 < i → aff (qw i) = S (pw i) := by decide +kernel
theorem S_zero : S 0 = 99 := by decide +kernel
theorem lg_pw : ∀ b, b < 256 → 0 < b → 0 < lg b ∧ lg b < 256 ∧ pw (lg b) = b := by decide +kernel
theorem S_lt : ∀ i, i < 256 → S i < 256 := by decide +kernel
theorem U_lt : ∀ i, i < 256 → U i < 256 := by decide +kernel
theorem US : ∀ i, i < 256 → U (S i) = i := by decide +kernel
theorem SU : ∀ i, i < 256 → S (U i) = i := by decide +kernel
theorem xt_xor : ∀ a, a < 256 → ∀ b, b < 256 → xt (a ^^^ b) = xt a ^^^ xt b := by decide +kernel
end Go.Proofs.YtmifebcaifbmoaaGreatDoor.Aes
end

/- Frame -/
section
namespace Go.Proofs.YtmifebcaifbmoaaGreatDoor.Frame
open Go.ChangeShapes Go.WideShapes Go.ChangeAt Go.RowKit

section
variable {H : Type} {enc : TypeId × Value → H} {P : Program}

theorem trodAll_below (hl : laidOutB P = true) {W W' : World} (hb : Below W.heap.size W W') :
    ∀ {ts : List TypeId} {vs : List Value} {ds : List (DataW H)} {ps : List MemPlace},
      (ts.all fun t => P.readableRec t && decide (t < P.types.size)) = true →
      DataW.TrodAll enc P W 0 (fun _ => true) true ts vs ds ps →
      DataW.TrodAll enc P W' 0 (fun b => decide (b < W.heap.size)) true ts vs ds ps
  | [], [], [], _, _, h => h
  | t :: ts, v :: vs, d :: ds, ps, ha, h => by
    obtain ⟨p, q, h1, h2, rfl⟩ := h
    simp only [List.all_cons, Bool.and_eq_true, decide_eq_true_eq] at ha
    refine ⟨p, q, Below.trod hl ha.1.1 ha.1.2 h1 hb ?_, trodAll_below hl hb ha.2 h2, rfl⟩
    have h3 : DataW.TrodAll enc P W 0 (fun _ => true) true [t] [v] [d] p := ⟨p, [], h1, rfl, by simp⟩
    exact h3.lt
  | [], _ :: _, _, _, _, h => h.elim
  | [], [], _ :: _, _, _, h => h.elim
  | _ :: _, [], _, _, _, h => h.elim
  | _ :: _, _ :: _, [], _, _, h => h.elim

theorem trodAll_length {W : World} {base : Nat} {sp : Nat → Bool} {held : Bool} :
    ∀ {ts : List TypeId} {vs : List Value} {ds : List (DataW H)} {ps : List MemPlace}, DataW.TrodAll enc P W base sp held ts vs ds ps → ds.length = ts.length
  | [], [], [], _, _ => rfl
  | _ :: _, _ :: _, _ :: _, _, h => by
    obtain ⟨p, q, _, h2, _⟩ := h
    simp [trodAll_length h2]
  | [], _ :: _, _, _, h => h.elim
  | [], [], _ :: _, _, h => h.elim
  | _ :: _, [], _, _, h => h.elim
  | _ :: _, _ :: _, [], _, h => h.elim

/-- 'post' of a law that answers true and leaves what was there alone. -/
theorem law_post {s : ChangeSpec} {fn : Func} {tb : TypeId} (hl : laidOutB P = true) (hv : s.vars = []) (hr : fn.resultTypes = #[tb]) (hb : P.underlying tb = some .bool)
    (hs : ∀ ds : List (DataW H), ds.length = fn.params.toList.length → s.fn H (ds ++ []) = { results := [.lit (.bool true)], args := ds })
    (hread : (fn.params.toList.all fun t => P.readableRec t && decide (t < P.types.size)) = true)
    {W W' : World} {args : Array Value} {ds gs : List (DataW H)} {before : List MemPlace}
    (hW : DataW.Whole enc P fn.params.toList s.vars false W args.toList ds gs before) (bel : Below W.heap.size W W') :
    s.post enc P fn false true false false W args (.bool true) W' := by
  have hW' := hW
  obtain ⟨p, q, hA, hV, rfl, _, _⟩ := hW
  rw [hv] at hV
  obtain ⟨rfl, rfl⟩ := trodVars_none hV
  have e := hs ds (trodAll_length hA)
  refine ⟨ds, [], _, [], p, [], hW', ?_, ?_, ?_, bel.frame _, fun h => by cases h⟩
  · rw [e, hr]
    exact trodAll_mk1 (shut_bool hb _)
  · rw [e]
    exact trodAll_below hl bel hread hA
  · rw [e, hv]
    exact rfl

end

/-- The same where the row lists variables. -/
theorem law_returns_laid {C : Checked} {os : Os} {f : FuncId} {fn : Func} {s : ChangeSpec} {tb : TypeId} {H : Type} {enc : TypeId × Value → H} {laid : List (String × DataW Unit)}
    (own : ownKnob C.prog.godebug = none) (started : os.Started) (noInit : C.prog.inits.idxOf? f = none) (hfn : C.prog.funcs[f]? = some fn)
    (hl : laidOutB C.prog = true) (hv : s.vars = []) (hr : fn.resultTypes = #[tb]) (hb : C.prog.underlying tb = some .bool)
    (hs : ∀ ds : List (DataW H), ds.length = fn.params.toList.length → s.fn H (ds ++ []) = { results := [.lit (.bool true)], args := ds })
    (hread : (fn.params.toList.all fun t => C.prog.readableRec t && decide (t < C.prog.types.size)) = true)
    (witness : ∃ (w : World) (tape : Tape) (i : Input), w.os = os ∧ (w.forCall tape i).Shaped C.prog ∧ i.vars = [] ∧ Input.okWide C.prog (w.forCall tape i) .any w.heap.size f i ∧
      ((s.pre enc C.prog fn [] false (w.forCall tape i).memory i.args ∧ laidMetH C.prog laid (w.forCall tape i).memory) ∧ sizedMet enc C.prog fn (OpenSpec.ofChange s) false (w.forCall tape i).memory i.args) ∧
      ({} : Assume).holds C.prog (lone (Frame.enter C.prog f i.args .normal) [] (w.forCall tape i)))
    (walk : ∀ (W : World) (base : Nat) (args : Array Value) (ds : List (DataW H)) (p : List MemPlace),
      (∀ (j : Nat) t v, fn.params[j]? = some t → args[j]? = some v → Value.okWide C.prog W .any base t v) →
      DataW.TrodAll enc C.prog W 0 (fun _ => true) true fn.params.toList args.toList ds p →
      (DataW.weightsEach C.prog (fn.params.toList ++ s.plain.varTypes C.prog) (ds ++ [])).all (· ≤ reachBytes) = true →
      (∀ b off, MemPlace.cell b off ∈ p → W.frozen? ⟨b, off, none⟩ = false) →
      laidMetH C.prog laid W →
      Calls C.prog f args W fun e W' => e = .returned (.bool true) ∧ Below W.heap.size W W') :
    ReturnsInHanded {} C os f .any (fun w args => (s.pre enc C.prog fn [] false w args ∧ laidMetH C.prog laid w) ∧ sizedMet enc C.prog fn (OpenSpec.ofChange s) false w args) (s.post enc C.prog fn false true false false) := by
  refine returnsInHanded_of_change_and (X := fun w _ => laidMetH C.prog laid w) (fun _ _ _ hh h => h.of_heap hh) own started noInit hfn witness ?_
  intro W base args ds gs before hval hW _ hsz hL _
  have hW' := hW
  obtain ⟨p, q, hA, hV, rfl, hfz, _⟩ := hW
  rw [hv] at hV
  obtain ⟨rfl, rfl⟩ := trodVars_none hV
  refine (walk W base args ds p hval hA hsz (fun b off h => hfz b off (by simpa using h)) hL).mono ?_
  rintro e W' ⟨rfl, bel⟩
  exact ⟨_, rfl, law_post hl hv hr hb hs hread hW' bel⟩

theorem laidVars_mem {P : Program} {W : World} : ∀ {laid : List (String × DataW Unit)} {ps : List MemPlace} {name : String} {d : DataW Unit}, DataW.LaidVars P W laid ps → (name, d) ∈ laid →
    ∃ g t cs fuel p, P.globalNamed name = some g ∧ (P.globals[g]?).map (·.type) = some t ∧ W.var? P name = some cs ∧ DataW.trod (fun _ => ()) P W 0 (fun _ => true) false fuel t cs.toList = some (d, p)
  | [], _, _, _, _, hm => by cases hm
  | (n, d0) :: r, ps, name, d, h, hm => by
    obtain ⟨g, t, cs, fuel, p, q, h1, h2, h3, h4, h5, _⟩ := h
    rcases List.mem_cons.1 hm with e | hm
    · cases e
      exact ⟨g, t, cs, fuel, p, h1, h2, h3, h4⟩
    · exact laidVars_mem h5 hm

/-- A listed array of integers: its cells. -/
theorem ints_of_laid {P : Program} {W : World} {laid : List (String × DataW Unit)} {name : String} {g : Nat} {t e : TypeId} {k : IntKind} {n : Nat} {zs : List Int}
    (h : laidMetH P laid W) (hp : (laid.filter fun x => x.2.handleName?.isSome) = [])
    (hm : (name, (.agg (zs.map fun z => .lit (.int k z)) : DataW Unit)) ∈ laid)
    (hg : P.globalNamed name = some g) (hty : (P.globals[g]?).map (·.type) = some t) (ha : P.underlying t = some (.array n e)) (he : P.underlying e = some (.int k)) (hc : P.cellsOf e = 1) :
    ∀ i, i < zs.length → W.cell? ⟨g, i, none⟩ = some (.int k (zs.getD i 0)) := by
  unfold laidMetH at h
  rw [hp] at h
  obtain ⟨ps, hl, _, _⟩ := h
  obtain ⟨g', t', cs, fuel, p, hg', ht', hvar, hd⟩ := laidVars_mem hl hm
  obtain rfl := Option.some.inj (hg.symm.trans hg')
  obtain rfl := Option.some.inj (hty.symm.trans ht')
  obtain ⟨xs, m, rfl, hx, hlen, hn, hel⟩ := DataW.trod_array ha hd
  simp only [Prod.mk.injEq, DataW.agg.injEq] at hx
  intro i hi
  have hxl : xs.length = zs.length := by have := congrArg List.length hx.1; simpa using this.symm
  have hix : i < xs.length := by omega
  have h1 := hel i (by omega)
  rw [hc, List.getElem?_eq_getElem hix, Nat.mul_one] at h1
  obtain ⟨z, e1, e2, _⟩ := DataW.trod_int he h1
  rw [World.var?_cell hg hvar]
  have h3 : cs[i]? = some (.int k z) := by
    have : (List.take 1 (List.drop i cs.toList))[0]? = some (.int k z) := by rw [e1]; rfl
    simpa using this
  rw [h3]
  have h4 := congrArg (fun l => l[i]?) hx.1
  simp only [List.getElem?_map, List.getElem?_eq_getElem hi, List.getElem?_eq_getElem hix, Option.map_some, e2, Option.some.injEq] at h4
  simp only [DataW.lit.injEq, Lit.int.injEq, true_and] at h4
  rw [List.getD_eq_getElem?_getD, List.getElem?_eq_getElem hi, Option.getD_some, h4]

theorem no_stand_ins {P : Program} {fn : Func} (h : (fn.params.all fun t => !P.wantsStandIn t) = true) {j : Nat} {t : TypeId} (ht : fn.params[j]? = some t) : P.wantsStandIn t = false := by
  rw [Array.all_eq_true_iff_forall_mem] at h
  have := h t (Array.mem_of_getElem? ht)
  simpa using this

theorem block_lt {w : World} {b o : Nat} {v : Value} (h : w.cell? ⟨b, o, none⟩ = some v) : b < w.heap.size := by
  rcases Nat.lt_or_ge b w.heap.size with h' | h'
  · exact h'
  · simp [World.cell?, Array.getElem?_eq_none h'] at h

end Go.Proofs.YtmifebcaifbmoaaGreatDoor.Frame
end

/- Blk -/
section
namespace Go.Proofs.YtmifebcaifbmoaaGreatDoor.Blk
open Go.RowKit Go.Lib

/-- the cells of an array of n numbers -/
def arr (k : IntKind) (n : Nat) (f : Nat → Int) : Array Value := ((List.range n).map fun i => Value.int k (f i)).toArray
theorem arr_size (k : IntKind) (n : Nat) (f : Nat → Int) : (arr k n f).size = n := by simp [arr]
theorem arr_get (k : IntKind) (n : Nat) (f : Nat → Int) (i : Nat) (h : i < n) : (arr k n f)[i]? = some (.int k (f i)) := by simp [arr, h]
theorem arr_one (k : IntKind) (n : Nat) (f : Nat → Int) : (arr k n f).all (·.oneCell') = true := by
  rw [Array.all_eq_true_iff_forall_mem]
  intro x hx
  simp only [arr, List.mem_toArray, List.mem_map] at hx
  obtain ⟨_, _, rfl⟩ := hx
  rfl
def upd (f : Nat → Int) (i : Nat) (v : Int) : Nat → Int := fun j => if j = i then v else f j
theorem arr_set (k : IntKind) (n : Nat) (f : Nat → Int) (i : Nat) (v : Int) : (arr k n f).setIfInBounds i (.int k v) = arr k n (upd f i v) := by
  apply Array.ext_getElem?
  intro j
  rw [Array.getElem?_setIfInBounds]
  simp only [arr_size]
  by_cases h : j < n
  · rw [arr_get _ _ _ _ h, arr_get _ _ _ _ h]
    by_cases e : i = j
    · subst e; simp [upd, h]
    · rw [if_neg e]
      have : ¬ j = i := fun h' => e h'.symm
      simp [upd, this]
  · have h1 : (arr k n f)[j]? = none := Array.getElem?_eq_none (by rw [arr_size]; omega)
    have h2 : (arr k n (upd f i v))[j]? = none := Array.getElem?_eq_none (by rw [arr_size]; omega)
    by_cases e : i = j
    · subst e; simp [h, h2]
    · simp [e, h1, h2]
theorem arr_congr {k : IntKind} {n : Nat} {f g : Nat → Int} (h : ∀ i, i < n → f i = g i) : arr k n f = arr k n g := by
  unfold arr
  congr 1
  apply List.map_congr_left
  intro i hi
  rw [h i (by simpa using hi)]

/-- block b holds just the numbers f -/
def Arr (w : World) (b : Nat) (k : IntKind) (n : Nat) (t : TypeId) (f : Nat → Int) : Prop := w.heap[b]? = some (.cells (arr k n f) t (0, 0))
section
variable {w : World} {b : Nat} {k : IntKind} {n : Nat} {t : TypeId} {f : Nat → Int}
theorem Arr.cell (h : Arr w b k n t f) {i : Nat} (hi : i < n) : w.cell? ⟨b, i, none⟩ = some (.int k (f i)) := by
  rw [cell_of_row w b i _ _ _ h, arr_get _ _ _ _ hi]
theorem Arr.free (h : Arr w b k n t f) (i : Nat) : w.frozen? ⟨b, i, none⟩ = false := frozen_of_row w b i _ _ h
theorem Arr.lt (h : Arr w b k n t f) : b < w.heap.size := by
  rcases Nat.lt_or_ge b w.heap.size with h' | h'
  · exact h'
  · rw [Arr, Array.getElem?_eq_none h'] at h; cases h
theorem Arr.store (h : Arr w b k n t f) (i : Nat) (v : Int) : Arr (w.setCell ⟨b, i, none⟩ (.int k v)) b k n t (upd f i v) := by
  rw [Arr, heap_setCell_same _ _ _ _ _ _ h, arr_set]
theorem Arr.other (h : Arr w b k n t f) {a : Addr} (hb : b ≠ a.block) (v : Value) : Arr (w.setCell a v) b k n t f := by
  rw [Arr, heap_setCell_other _ _ _ _ hb]; exact h
theorem Arr.alloc (h : Arr w b k n t f) (o : Obj) : Arr (w.alloc o) b k n t f := by
  rw [Arr, Below.heap_alloc _ _ _ h.lt]; exact h
theorem Arr.new (w : World) (k : IntKind) (n : Nat) (t : TypeId) (f : Nat → Int) : Arr (w.alloc (.cells (arr k n f) t)) w.heap.size k n t f := by
  show (w.heap.push _)[w.heap.size]? = _
  simp
theorem Arr.drew (h : Arr w b k n t f) : Arr w.drew b k n t f := h
theorem Arr.below {B : Nat} {w' : World} (h : Arr w b k n t f) (hb : Below B w w') (hlt : b < B) : Arr w' b k n t f := by
  rw [Arr, hb.block b hlt]; exact h
theorem Arr.congr (h : Arr w b k n t f) {g : Nat → Int} (e : ∀ i, i < n → f i = g i) : Arr w b k n t g := by
  rw [Arr, ← arr_congr e]; exact h
end

/-- the value of an array -/
abbrev A16 (f : Nat → Int) : Value := .agg (arr .u8 16 f)

section
variable {P : Program} {ops : Array Oper} {rest : List Oper} {o : Oper} {a : Act} {w : World} {Q : Exit → Act → World → Prop}

/-- A whole array is read. -/
theorem wpList_load_arr (hgd : o.guard = none) (ty : TypeId) (x : Operand) (ho : o.op = .load ty x) (b : Nat) (hx : a.eval x = .pointer (some ⟨b, 0, none⟩))
    {k : IntKind} {n : Nat} {t : TypeId} {f : Nat → Int} {d : TypeDesc} (hA : Arr w b k n t f) (hu : P.underlying ty = some d) (hd : (match d with | .struct _ | .array _ _ => true | _ => false) = true)
    (hi : (P.info? ty).map (·.size) = some n) (h : wpList P ops Q rest (a.put o.dst (.agg (arr k n f))) w) : wpList P ops Q (o :: rest) a w :=
  wpList_load_row hgd ty x ho b hx t _ _ d hA hu hd (by rw [arr_size]; exact hi) h

/-- A whole array is written over a block. -/
theorem wpList_store_arr (hgd : o.guard = none) (ty : TypeId) (x y : Operand) (ho : o.op = .store ty x y) (b : Nat) {k : IntKind} {n : Nat} {f : Nat → Int} (hx : a.eval x = .pointer (some ⟨b, 0, none⟩)) (hy : a.eval y = .agg (arr k n f))
    {t : TypeId} {g : Nat → Int} (hA : Arr w b k n t g) (hi : (P.info? ty).map (·.size) = some n)
    (h : ∀ w', Arr w' b k n t f → w.grownBy w' (some b) → w'.heap.size = w.heap.size → wpList P ops Q rest (a.put o.dst undef) w') : wpList P ops Q (o :: rest) a w := by
  refine wpList_store_row hgd ty x y ho b (arr k n f) hx hy t (arr k n g) hA (by rw [arr_size]; exact hi) (by rw [arr_size, arr_size]) (arr_one _ _ _) ?_
  refine h _ (setRow_heap w b _ _ t _ hA) ⟨rfl, rfl, rfl, by simp, fun c _ hc => setRow_other w b c _ (fun e => hc (by rw [e]))⟩ (by simp)

theorem ret_arr {fn : Func} {p : Tmp} {ty : TypeId} {R : Ending → World → Prop} {b : Nat} {k : IntKind} {n : Nat} {t : TypeId} {f : Nat → Int} {d : TypeDesc} (hr : fn.results = #[.cell p ty])
    (hp : a.tmps.getD p undef = .pointer (some ⟨b, 0, none⟩)) (hA : Arr w b k n t f) (hu : P.underlying ty = some d) (hd : (match d with | .struct _ | .array _ _ => true | _ => false) = true)
    (hi : (P.info? ty).map (·.size) = some n) (hdf : a.defers = []) (h : R (.returned (.agg (arr k n f))) w) : bodyPost P fn R .ret a w :=
  bodyPost_ret (v := .agg (arr k n f)) (results_cell_row hr _ _ _ _ _ _ _ hp hA hu hd (by rw [arr_size]; exact hi)) hdf h
end

theorem Arr.grown {w w' : World} {b c : Nat} {k : IntKind} {n : Nat} {t : TypeId} {f : Nat → Int} (h : Arr w c k n t f) (hg : w.grownBy w' (some b)) (hne : c ≠ b) : Arr w' c k n t f := by
  rw [Arr, hg.block c h.lt (fun e => hne (Option.some.inj e))]; exact h

theorem gb_refl (w : World) (b : Option Nat) : w.grownBy w b := ⟨rfl, rfl, rfl, Nat.le_refl _, fun _ _ _ => rfl⟩
theorem gb_trans {a w w' : World} {b : Option Nat} (h : a.grownBy w b) (k : w.grownBy w' b) : a.grownBy w' b :=
  ⟨k.os.trans h.os, k.tape.trans h.tape, k.output.trans h.output, Nat.le_trans h.size k.size, fun i hi hne => (k.block i (Nat.lt_of_lt_of_le hi h.size) hne).trans (h.block i hi hne)⟩
theorem gb_setCell {a w : World} {b : Nat} (h : a.grownBy w (some b)) (i : Nat) (v : Value) : a.grownBy (w.setCell ⟨b, i, none⟩ v) (some b) :=
  gb_trans h ⟨rfl, rfl, rfl, by simp, fun c _ hne => Below.heap_setCell _ _ _ _ (fun e => hne (by rw [e]))⟩
theorem gb_drew {a w : World} {b : Option Nat} (h : a.grownBy w b) : a.grownBy w.drew b := ⟨h.os, h.tape, h.output, h.size, h.block⟩
end Go.Proofs.YtmifebcaifbmoaaGreatDoor.Blk
end

/- Word -/
section
namespace Go.Proofs.YtmifebcaifbmoaaGreatDoor.Aes
open Go

/-- four bytes as a number, the first the highest -/
def wd (f : Nat → Nat) : Nat := ((f 0 * 256 + f 1) * 256 + f 2) * 256 + f 3
/-- bytes all -/
def Byt (f : Nat → Nat) (n : Nat) : Prop := ∀ j, j < n → f j < 256
theorem wd_lt {f : Nat → Nat} (h : Byt f 4) : wd f < 4294967296 := by
  have := h 0 (by decide); have := h 1 (by decide); have := h 2 (by decide); have := h 3 (by decide)
  unfold wd; omega
theorem wd_0 {f : Nat → Nat} (h : Byt f 4) : wd f / 16777216 = f 0 := by
  have := h 0 (by decide); have := h 1 (by decide); have := h 2 (by decide); have := h 3 (by decide)
  unfold wd; omega
theorem wd_1 {f : Nat → Nat} (h : Byt f 4) : wd f / 65536 % 256 = f 1 := by
  have := h 0 (by decide); have := h 1 (by decide); have := h 2 (by decide); have := h 3 (by decide)
  unfold wd; omega
theorem wd_2 {f : Nat → Nat} (h : Byt f 4) : wd f / 256 % 256 = f 2 := by
  have := h 0 (by decide); have := h 1 (by decide); have := h 2 (by decide); have := h 3 (by decide)
  unfold wd; omega
theorem wd_3 {f : Nat → Nat} (h : Byt f 4) : wd f % 256 = f 3 := by
  have := h 0 (by decide); have := h 1 (by decide); have := h 2 (by decide); have := h 3 (by decide)
  unfold wd; omega
theorem wd_congr {f g : Nat → Nat} (h : ∀ j, j < 4 → f j = g j) : wd f = wd g := by
  unfold wd
  rw [h 0 (by decide), h 1 (by decide), h 2 (by decide), h 3 (by decide)]
theorem pair_xor (a b c d : Nat) (hb : b < 256) (hd : d < 256) : (a * 256 + b) ^^^ (c * 256 + d) = (a ^^^ c) * 256 + (b ^^^ d) := by
  have e1 : ((a * 256 + b) ^^^ (c * 256 + d)) / 2 ^ 8 = a ^^^ c := by
    rw [Nat.xor_div_two_pow]
    congr 1 <;> omega
  have e2 : ((a * 256 + b) ^^^ (c * 256 + d)) % 2 ^ 8 = b ^^^ d := by
    rw [Nat.xor_mod_two_pow]
    congr 1 <;> omega
  generalize (a * 256 + b) ^^^ (c * 256 + d) = x at *
  omega
theorem wd_xor {f g : Nat → Nat} (hf : Byt f 4) (hg : Byt g 4) : wd f ^^^ wd g = wd fun j => f j ^^^ g j := by
  unfold wd
  rw [pair_xor _ _ _ _ (hf 3 (by decide)) (hg 3 (by decide)), pair_xor _ _ _ _ (hf 2 (by decide)) (hg 2 (by decide)), pair_xor _ _ _ _ (hf 1 (by decide)) (hg 1 (by decide))]
theorem byt_xor {f g : Nat → Nat} {n : Nat} (hf : Byt f n) (hg : Byt g n) : Byt (fun j => f j ^^^ g j) n := fun j hj => xor_lt (hf j hj) (hg j hj)
theorem or_add (a b k : Nat) (hb : b < 2 ^ k) : a * 2 ^ k ||| b = a * 2 ^ k + b := by
  rw [Nat.mul_comm, ← Nat.two_pow_add_eq_or_of_lt hb]

/-! the walk's forms -/
theorem bits_xor' (k : IntKind) (j : Nat) (hj : j ≤ k.bits) (hk : ∀ n : Int, 0 ≤ n → n < 2 ^ j → k.wrap n = n) (a b : Nat) (ha : a < 2 ^ j) (hb : b < 2 ^ j) :
    bits .xor k a b = ((a ^^^ b : Nat) : Int) := by
  have hp : 2 ^ j ≤ 2 ^ k.bits := Nat.pow_le_pow_right (by decide) hj
  have ha' : a % 2 ^ k.bits = a := Nat.mod_eq_of_lt (Nat.lt_of_lt_of_le ha hp)
  have hb' : b % 2 ^ k.bits = b := Nat.mod_eq_of_lt (Nat.lt_of_lt_of_le hb hp)
  simp only [bits, BitVec.ofInt_natCast, BitVec.toNat_xor, BitVec.toNat_ofNat, ha', hb']
  exact hk _ (Int.natCast_nonneg _) (by exact_mod_cast Nat.xor_lt_two_pow ha hb)
theorem wrap32u (n : Int) (h1 : 0 ≤ n) (h2 : n < 4294967296) : IntKind.u32.wrap n = n := by rw [IntKind.wrap_u32]; omega
theorem wrap8u (n : Int) (h1 : 0 ≤ n) (h2 : n < 256) : IntKind.u8.wrap n = n := wraps_u8 n h1 h2
theorem xor_u32 (a b : Nat) (ha : a < 4294967296) (hb : b < 4294967296) : bits .xor .u32 a b = ((a ^^^ b : Nat) : Int) := bits_xor' .u32 32 (by decide) (fun n h1 h2 => wrap32u n h1 (by omega)) a b ha hb
theorem or_u32 (a b : Nat) (ha : a < 4294967296) (hb : b < 4294967296) : bits .or .u32 a b = ((a ||| b : Nat) : Int) := (bits_nat .u32 32 (by decide) (fun n h1 h2 => wrap32u n h1 (by omega)) a b ha hb).2
theorem and_u32 (a b : Nat) (ha : a < 4294967296) (hb : b < 4294967296) : bits .and .u32 a b = ((a &&& b : Nat) : Int) := (bits_nat .u32 32 (by decide) (fun n h1 h2 => wrap32u n h1 (by omega)) a b ha hb).1
theorem xor_u8 (a b : Nat) (ha : a < 256) (hb : b < 256) : bits .xor .u8 a b = ((a ^^^ b : Nat) : Int) := bits_xor' .u8 8 (by decide) (fun n h1 h2 => wrap8u n h1 (by omega)) a b ha hb
theorem or_u8 (a b : Nat) (ha : a < 256) (hb : b < 256) : bits .or .u8 a b = ((a ||| b : Nat) : Int) := (bits_nat .u8 8 (by decide) (fun n h1 h2 => wrap8u n h1 (by omega)) a b ha hb).2
theorem and_u8 (a b : Nat) (ha : a < 256) (hb : b < 256) : bits .and .u8 a b = ((a &&& b : Nat) : Int) := (bits_nat .u8 8 (by decide) (fun n h1 h2 => wrap8u n h1 (by omega)) a b ha hb).1
/-- the low byte -/
theorem and255 (a : Nat) (ha : a < 4294967296) : bits .and .u32 a 255 = ((a % 256 : Nat) : Int) := by
  have := and_u32 a 255 ha (by decide)
  rw [show ((255 : Int)) = ((255 : Nat) : Int) from rfl, this]
  congr 1
  exact Nat.and_two_pow_sub_one_eq_mod a 8
end Go.Proofs.YtmifebcaifbmoaaGreatDoor.Aes
end

/- Cipher -/
section
namespace Go.Proofs.YtmifebcaifbmoaaGreatDoor.Aes
open Go

theorem xlc (a b c : Nat) : a ^^^ (b ^^^ c) = b ^^^ (a ^^^ c) := by rw [← Nat.xor_assoc, Nat.xor_comm a b, Nat.xor_assoc]
/-- a column by a matrix whose rows are turns of m -/
def colB (m : Nat → Nat) (x : Nat → Nat) (j : Nat) : Nat := gm (x 0) (m (j % 4)) ^^^ gm (x 1) (m ((j + 3) % 4)) ^^^ gm (x 2) (m ((j + 2) % 4)) ^^^ gm (x 3) (m ((j + 1) % 4))
/-- all columns of a state -/
def colsB (m : Nat → Nat) (s : Nat → Nat) (i : Nat) : Nat := colB m (fun r => s (4 * (i / 4) + r)) (i % 4)
/-- bytes by a box, rows moved -/
def rowB (box : Nat → Nat) (step : Nat) (s : Nat → Nat) (i : Nat) : Nat := box (s (4 * ((i / 4 + i % 4 * step) % 4) + i % 4))
def mE (d : Nat) : Nat := if d = 0 then 2 else if d = 3 then 3 else 1
def mD (d : Nat) : Nat := if d = 0 then 14 else if d = 1 then 9 else if d = 2 then 13 else 11
/-- the state behind r rounds -/
def stR (m box : Nat → Nat) (step : Nat) (k : Nat → Nat → Nat) (s : Nat → Nat) : Nat → Nat → Nat
  | 0 => fun i => s i ^^^ k 0 i
  | r + 1 => fun i => colsB m (rowB box step (stR m box step k s r)) i ^^^ k (r + 1) i
/-- all rounds: nr of them -/
def thrB (m box : Nat → Nat) (step : Nat) (k : Nat → Nat → Nat) (nr : Nat) (s : Nat → Nat) (i : Nat) : Nat := rowB box step (stR m box step k s (nr - 1)) i ^^^ k nr i
/-- a block encrypted: k r i is byte i of round key r -/
def encB (k : Nat → Nat → Nat) (nr : Nat) (s : Nat → Nat) : Nat → Nat := thrB mE S 1 k nr s
/-- the round keys of the equivalent inverse cipher -/
def backK (k : Nat → Nat → Nat) (nr r : Nat) (i : Nat) : Nat := if 0 < r ∧ r < nr then colsB mD (k (nr - r)) i else k (nr - r) i
def decB (k : Nat → Nat → Nat) (nr : Nat) (s : Nat → Nat) : Nat → Nat := thrB mD U 3 (backK k nr) nr s
/-! bytes stay bytes -/
theorem colB_lt {m x : Nat → Nat} (h : Byt x 4) (j : Nat) : colB m x j < 256 :=
  xor_lt (xor_lt (xor_lt (gm_lt _ _ (h 0 (by decide))) (gm_lt _ _ (h 1 (by decide)))) (gm_lt _ _ (h 2 (by decide)))) (gm_lt _ _ (h 3 (by decide)))
theorem colsB_byt {m s : Nat → Nat} (h : Byt s 16) : Byt (colsB m s) 16 := fun i hi => colB_lt (fun r hr => h _ (by omega)) _
theorem rowB_byt {box s : Nat → Nat} {step : Nat} (hb : Byt box 256) (h : Byt s 16) : Byt (rowB box step s) 16 := fun i hi => hb _ (h _ (by omega))
theorem S_byt : Byt S 256 := S_lt
theorem U_byt : Byt U 256 := U_lt
theorem stR_byt {m box : Nat → Nat} {step : Nat} {k : Nat → Nat → Nat} {s : Nat → Nat} (hb : Byt box 256) (hs : Byt s 16) {n : Nat} (hk : ∀ r, r ≤ n → Byt (k r) 16) : ∀ r, r ≤ n → Byt (stR m box step k s r) 16
  | 0, h => byt_xor hs (hk 0 h)
  | r + 1, h => byt_xor (colsB_byt (rowB_byt hb (stR_byt hb hs hk r (by omega)))) (hk (r + 1) h)
theorem thrB_byt {m box : Nat → Nat} {step : Nat} {k : Nat → Nat → Nat} {nr : Nat} {s : Nat → Nat} (hb : Byt box 256) (hs : Byt s 16) (hk : ∀ r, r ≤ nr → Byt (k r) 16) : Byt (thrB m box step k nr s) 16 :=
  byt_xor (rowB_byt hb (stR_byt hb hs hk _ (by omega))) (hk nr (Nat.le_refl _))
theorem encB_byt {k : Nat → Nat → Nat} {nr : Nat} {s : Nat → Nat} (hs : Byt s 16) (hk : ∀ r, r ≤ nr → Byt (k r) 16) : Byt (encB k nr s) 16 := thrB_byt S_byt hs hk
theorem backK_byt {k : Nat → Nat → Nat} {nr : Nat} (hk : ∀ r, r ≤ nr → Byt (k r) 16) : ∀ r, r ≤ nr → Byt (backK k nr r) 16 := fun r hr i hi => by
  unfold backK
  split
  · exact colsB_byt (hk _ (by omega)) i hi
  · exact hk _ (by omega) i hi
theorem decB_byt {k : Nat → Nat → Nat} {nr : Nat} {s : Nat → Nat} (hs : Byt s 16) (hk : ∀ r, r ≤ nr → Byt (k r) 16) : Byt (decB k nr s) 16 := thrB_byt U_byt hs (backK_byt hk)

/-! only bytes below 16 matter -/
theorem colB_congr {m x y : Nat → Nat} (h : ∀ r, r < 4 → x r = y r) (j : Nat) : colB m x j = colB m y j := by
  unfold colB
  rw [h 0 (by decide), h 1 (by decide), h 2 (by decide), h 3 (by decide)]
theorem colsB_congr {m s t : Nat → Nat} (h : ∀ i, i < 16 → s i = t i) : ∀ i, i < 16 → colsB m s i = colsB m t i := fun i hi => colB_congr (fun r hr => h _ (by omega)) _
theorem rowB_congr {box s t : Nat → Nat} {step : Nat} (h : ∀ i, i < 16 → s i = t i) : ∀ i, i < 16 → rowB box step s i = rowB box step t i := fun i hi => by
  unfold rowB
  rw [h _ (by omega)]
theorem stR_congr {m box : Nat → Nat} {step : Nat} {k k' : Nat → Nat → Nat} {s t : Nat → Nat} (hs : ∀ i, i < 16 → s i = t i) {n : Nat} (hk : ∀ r, r ≤ n → ∀ i, i < 16 → k r i = k' r i) : ∀ r, r ≤ n → ∀ i, i < 16 → stR m box step k s r i = stR m box step k' t r i
  | 0, h, i, hi => by
    rw [stR, stR]
    dsimp only
    rw [hs i hi, hk 0 h i hi]
  | r + 1, h, i, hi => by
    rw [stR, stR]
    dsimp only
    rw [colsB_congr (rowB_congr (stR_congr hs hk r (by omega))) i hi, hk (r + 1) h i hi]
theorem thrB_congr {m box : Nat → Nat} {step : Nat} {k k' : Nat → Nat → Nat} {nr : Nat} {s t : Nat → Nat} (hs : ∀ i, i < 16 → s i = t i) (hk : ∀ r, r ≤ nr → ∀ i, i < 16 → k r i = k' r i) : ∀ i, i < 16 → thrB m box step k nr s i = thrB m box step k' nr t i := fun i hi => by
  unfold thrB
  rw [rowB_congr (stR_congr hs hk (nr - 1) (by omega)) i hi, hk nr (Nat.le_refl _) i hi]
theorem encB_congr {k k' : Nat → Nat → Nat} {nr : Nat} {s t : Nat → Nat} (hs : ∀ i, i < 16 → s i = t i) (hk : ∀ r, r ≤ nr → ∀ i, i < 16 → k r i = k' r i) : ∀ i, i < 16 → encB k nr s i = encB k' nr t i := thrB_congr hs hk

/-! products are linear -/
theorem gmL_xor : ∀ (n a a' b p p' : Nat), a < 256 → a' < 256 → gmL n (a ^^^ a') b (p ^^^ p') = gmL n a b p ^^^ gmL n a' b p'
  | 0, _, _, _, _, _, _, _ => rfl
  | n + 1, a, a', b, p, p', h, h' => by
    rw [gmL, gmL, gmL, xt_xor a h a' h']
    split
    · rw [show p ^^^ p' ^^^ (a ^^^ a') = (p ^^^ a) ^^^ (p' ^^^ a') by simp only [Nat.xor_comm, xlc]]
      exact gmL_xor n _ _ _ _ _ (xt_lt a) (xt_lt a')
    · exact gmL_xor n _ _ _ _ _ (xt_lt a) (xt_lt a')
theorem gm_xor (a a' b : Nat) (h : a < 256) (h' : a' < 256) : gm (a ^^^ a') b = gm a b ^^^ gm a' b := by
  have := gmL_xor 8 a a' b 0 0 h h'
  simpa [gm] using this
theorem colB_xor {m x y : Nat → Nat} (hx : Byt x 4) (hy : Byt y 4) (j : Nat) : colB m (fun r => x r ^^^ y r) j = colB m x j ^^^ colB m y j := by
  unfold colB
  rw [gm_xor _ _ _ (hx 0 (by decide)) (hy 0 (by decide)), gm_xor _ _ _ (hx 1 (by decide)) (hy 1 (by decide)), gm_xor _ _ _ (hx 2 (by decide)) (hy 2 (by decide)), gm_xor _ _ _ (hx 3 (by decide)) (hy 3 (by decide))]
  simp only [Nat.xor_assoc, xlc]
theorem colsB_xor {m s t : Nat → Nat} (hs : Byt s 16) (ht : Byt t 16) : ∀ i, i < 16 → colsB m (fun i => s i ^^^ t i) i = colsB m s i ^^^ colsB m t i := fun i hi =>
  colB_xor (fun r hr => hs _ (by omega)) (fun r hr => ht _ (by omega)) _
end Go.Proofs.YtmifebcaifbmoaaGreatDoor.Aes
end
