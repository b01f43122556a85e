/- What all walks use: the package variables that are read; slices of strings that are read; frames. No condition of its own. -/
import Derived.Test.YtggdgjifhikmiaaGreatDoorProg
import Derived.Test.YtggdgjifhikmiaaGreatDoorSpecVer
import Derived.WalkKit
import Derived.Lib.Hide
import Derived.Outline
import Derived.OwnWalk
import Derived.WalkLawsBesides
import Derived.WalkSpells
import Derived.WalkSmall
import Derived.Lib.OthersKept
import Derived.Lib.LaidTab
import Derived.Lib.AppendIntMem
import Derived.Lib.QuietBelow
import Derived.Laws.RangeAny
import Derived.Shelf.Strconv.Itoa3
set_option linter.unusedVariables false
namespace Go.Proofs.YtggdgjifhikmiaaGreatDoor
open Go.RowKit Yk
abbrev bs (s : ByteArray) : Bs := s.data.toList
theorem bs_length (s : ByteArray) : (bs s).length = s.size := by simp [bs]
/-- The package variables that the walks read. -/
structure Glob (w : World) : Prop where
  size : 14 ≤ w.heap.size
  max : ∃ m, w.cell? ⟨1, 0, none⟩ = some (.int .i64 m)
  tab : Lib.TabIs Tryz.prog w "internal/strconv.uint64pow10" .u64 Lib.pow10Tab
  errT : ∃ p, w.cell? ⟨0, 0, none⟩ = some p ∧ p = .iface 186 (.agg #[typeHandle Tryz.prog 40])
theorem gPow : Tryz.prog.globalNamed "internal/strconv.uint64pow10" = some 6 := by kernel_rfl
theorem cell_block {w w' : World} {b o : Nat} (h : w'.heap[b]? = w.heap[b]?) : w'.cell? ⟨b, o, none⟩ = w.cell? ⟨b, o, none⟩ := by unfold World.cell?; rw [h]
theorem Glob.below {B : Nat} {w w' : World} (h : Glob w) (hb : Below B w w') (hB : 14 ≤ B) : Glob w' where
  size := Nat.le_trans h.size hb.size
  max := by obtain ⟨m, hm⟩ := h.max; exact ⟨m, by rw [cell_block (hb.block _ (by omega)), hm]⟩
  tab := var?_below hb gPow (by omega) h.tab
  errT := by obtain ⟨p, hp, e⟩ := h.errT; exact ⟨p, by rw [cell_block (hb.block _ (by omega)), hp], e⟩
theorem Glob.next {w w' : World} (h : Glob w) (hb : Below w.heap.size w w') : Glob w' := h.below hb h.size
/-- A slice that reads as these strings. -/
def StrsAt (w : World) (v : Value) (xs : List ByteArray) : Prop :=
  ∃ A c, v = .slice A xs.length c ∧ (xs.length ≤ c ∧ xs.length ≤ 140737488355328) ∧ (∀ x ∈ xs, x.size ≤ 140737488355328) ∧ (0 < xs.length → ∃ b off, A = some ⟨b, off, none⟩ ∧ b < w.heap.size ∧ ∀ j (h : j < xs.length), w.cell? ⟨b, off + j, none⟩ = some (.string (xs[j]'h)))
theorem StrsAt.below {w w' : World} {v : Value} {xs : List ByteArray} (h : StrsAt w v xs) (hb : Below w.heap.size w w') : StrsAt w' v xs := by
  obtain ⟨A, c, rfl, hm, hx, ha⟩ := h
  refine ⟨A, c, rfl, hm, hx, fun h0 => ?_⟩
  obtain ⟨b, off, hA, hlt, hc⟩ := ha h0
  exact ⟨b, off, hA, Nat.lt_of_lt_of_le hlt hb.size, fun j hj => by rw [cell_block (hb.block _ hlt), hc j hj]⟩
/-- another block is written -/
theorem StrsAt.setCell {w : World} {B o c n : Nat} {xs : List ByteArray} (h : StrsAt w (.slice (some ⟨B, o, none⟩) n c) xs) (b o' : Nat) (u : Value) (hb : b ≠ B) : StrsAt (w.setCell ⟨b, o', none⟩ u) (.slice (some ⟨B, o, none⟩) n c) xs := by
  obtain ⟨A, c', he, hm, hx, ha⟩ := h
  refine ⟨A, c', he, hm, hx, fun h0 => ?_⟩
  obtain ⟨b1, off, hA, hlt, hc⟩ := ha h0
  simp only [Value.slice.injEq] at he
  rw [hA] at he
  obtain ⟨he1, _, _⟩ := he
  simp only [Option.some.injEq, Addr.mk.injEq] at he1
  obtain ⟨rfl, _, _⟩ := he1
  refine ⟨B, off, hA, by simpa [World.setCell] using hlt, fun j hj => ?_⟩
  rw [← hc j hj]
  refine cell_block ?_
  simp only [World.setCell]
  rw [Array.getElem?_modify]
  simp [hb]
theorem StrsAt.nil (w : World) : StrsAt w (.slice none 0 0) [] := ⟨none, 0, rfl, by simp, by simp, fun h => by simp at h⟩
/-- Below, one behind the other. -/
theorem bseq {w w1 w2 : World} (h : Below w.heap.size w w1) (k : Below w1.heap.size w1 w2) : Below w.heap.size w w2 :=
  ⟨k.os.trans h.os, k.tape.trans h.tape, k.output.trans h.output, Nat.le_trans h.size k.size, fun i hi => (k.block i (Nat.lt_of_lt_of_le hi h.size)).trans (h.block i hi)⟩
theorem below_drewN'' (w : World) (n : Nat) : Below w.heap.size w (w.drewN n) := by
  have := Lib.below_grow w.heap.size w (Nat.le_refl _) n #[]
  refine ⟨this.os, this.tape, this.output, ?_, fun k hk => ?_⟩
  · simp
  · simp
theorem ret_bool {a b : Bool} (h : a = b) : Ending.returned (.bool a) = .returned (.bool b) := by rw [h]
theorem ret_int {k : IntKind} {a b : Int} (h : a = b) : Ending.returned (.int k a) = .returned (.int k b) := by rw [h]
theorem ret_two {k l : IntKind} {a b c d : Int} (h : a = b) (g : c = d) : Ending.returned (.tuple #[.int k a, .int l c]) = .returned (.tuple #[.int k b, .int l d]) := by rw [h, g]
def okOr (b : Bool) (e : Int) : Int := if b then 0 else e
theorem okOr_true (e : Int) : okOr true e = 0 := rfl
theorem okOr_false (e : Int) : okOr false e = e := rfl
theorem all_take_snoc (f : UInt8 → Bool) (s : ByteArray) (k : Nat) (h : k < s.size) : (s.data.toList.take (k + 1)).all f = ((s.data.toList.take k).all f && f (s[k]'h)) := by
  rw [List.take_succ_eq_append_getElem (by simpa using h), List.all_append]
  simp
  rfl
theorem all_of_take (f : UInt8 → Bool) (s : ByteArray) (k : Nat) (h : k < s.size) (hf : f (s[k]'h) = false) : s.data.toList.all f = false := by
  rw [← List.take_append_drop k s.data.toList, List.all_append, List.drop_eq_getElem_cons (by simpa using h), List.all_cons]
  have : f (s.data.toList[k]'(by simpa using h)) = false := hf
  rw [this]; simp
theorem head_at (s : ByteArray) (h : 0 < s.size) : s.data.toList.head? = some (s[0]'h) := by
  rw [List.head?_eq_getElem?, List.getElem?_eq_getElem (by simpa using h)]; rfl
end Go.Proofs.YtggdgjifhikmiaaGreatDoor
