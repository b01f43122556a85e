/- Faults as they lie in memory. No condition of its own. -/
import Derived.Test.YtggdgjifhikmiaaGreatDoorBase
set_option linter.unusedVariables false
namespace Go.Proofs.YtggdgjifhikmiaaGreatDoor
open Go.RowKit Yk
theorem cells_of_block {w : World} {b : Nat} {cs : Array Value} {T : TypeId} {fz : Nat × Nat} (h : w.heap[b]? = some (.cells cs T fz)) (i : Nat) : w.cell? ⟨b, i, none⟩ = cs[i]? := by
  unfold World.cell?; rw [h]; simp
abbrev ptr (b : Nat) : Value := .pointer (some ⟨b, 0, none⟩)
abbrev eB : ByteArray := ⟨#[]⟩
theorem bfix {B : Nat} {w w' : World} (h : Below B w w') (e : w.heap.size = B) : Below w.heap.size w w' := by subst e; exact h
abbrev faultCells (code : Int) (what : ByteArray) (at_ : Int) : Array Value := #[.int .i64 code, .string what, .int .i64 at_, .nilIface]
abbrev faultV (g : Nat) : Value := .iface 109 (.pointer (some ⟨g, 0, none⟩))
/-- an error value: none, or a fault of that number, of that, there -/
def ErrIs (w : World) (v : Value) (code : Int) (what : ByteArray) (at_ : Int) : Prop :=
  (code = 0 ∧ v = .nilIface) ∨ (code ≠ 0 ∧ ∃ g, v = faultV g ∧ w.heap[g]? = some (.cells (faultCells code what at_) 108 (0, 0)))
theorem ErrIs.next {w w' : World} {v : Value} {code at_ : Int} {what : ByteArray} (h : ErrIs w v code what at_) (hb : Below w.heap.size w w') : ErrIs w' v code what at_ := by
  rcases h with h | ⟨h, g, rfl, hg⟩
  · exact .inl h
  · exact .inr ⟨h, g, rfl, (hb.block _ (Array.getElem?_eq_some_iff.1 hg).1).trans hg⟩
end Go.Proofs.YtggdgjifhikmiaaGreatDoor
