/- Contract of fold.Apply of a state that is not there. -/
import Derived.Test.YtggdgjifhikmiaaGreatDoorConApply2
import Derived.Test.YtggdgjifhikmiaaGreatDoorConLike
set_option linter.unusedVariables false
namespace Go.Proofs.YtggdgjifhikmiaaGreatDoor
open Go.RowKit Yk
set_option maxHeartbeats 2000000 in
set_option maxRecDepth 100000 in
theorem applyNil_any (k : Int) (who nm ver hold note : ByteArray) (nd : List (ByteArray × ByteArray)) (sm n sz : Int) (nv : Value) (w : World) (hn : NeedsAt w nv nd) :
    Calls Tryz.prog 10 #[.pointer none, .agg (evCells ⟨k, who, nm, ver, nd, sm, n, sz, hold, note⟩ nv)] w fun e w' => ∃ v, e = .returned v ∧ ErrIs w' v 1 eB (-1) ∧ Below w.heap.size w w' := by
  obtain ⟨A, cp, rfl, _⟩ := id hn
  have hb1 : Below w.heap.size w (w.alloc (.cells (evCells ⟨k, who, nm, ver, nd, sm, n, sz, hold, note⟩ (.slice A nd.length cp)) 36)) := (Below.refl _ _).alloc (Nat.le_refl _) _
  have HC : Hid (∀ W, NeedsAt W (.slice A nd.length cp) nd → Calls Tryz.prog 9 #[.pointer none, .agg (evCells ⟨k, who, nm, ver, nd, sm, n, sz, hold, note⟩ (.slice A nd.length cp))] W fun e w' => ∃ v, e = .returned v ∧ ErrIs w' v 1 eB (-1) ∧ Below W.heap.size W w') :=
    Lib.hid (fun W h => fitsNil_any _ W ⟨k, who, nm, ver, hold, note, nd, sm, n, sz, _, rfl, h⟩)
  have hn0 := hn.below hb1
  clear hn
  unfold evCells
  go_enter Tryz.func10, Tryz.ntmps10
  go_wp2_with (go_at_call 9; refine (HC.out _ hn0).mono ?_)
  rintro e w1 ⟨v, rfl, hv, hb2⟩
  rcases hv with ⟨h1, h2⟩ | ⟨h1, g, rfl, hgg⟩
  · cases h1
  · have HGG := Lib.hid hgg
    clear hgg
    go_wp2
    go_ret
    exact ⟨_, rfl, .inr ⟨h1, g, rfl, HGG.out⟩, bseq hb1 hb2⟩
set_option maxHeartbeats 1000000 in
theorem packagesNil (w : World) : Calls Tryz.prog 20 #[.pointer none] w fun e w' => e = .returned (.func (.func 52) #[] #[ptr w.heap.size]) ∧ w'.cell? ⟨w.heap.size, 0, none⟩ = some (.pointer none) ∧ w.heap.size < w'.heap.size ∧ Below w.heap.size w w' := by
  go_enter Tryz.func20, Tryz.ntmps20
  go_wp2
  go_ret
  exact ⟨rfl, cells_of_block (heap_alloc_new w _) 0, by simp, (Below.refl _ _).alloc (Nat.le_refl _) _⟩
set_option maxHeartbeats 1000000 in
theorem packages1Nil (y : Value) (b : Nat) (w : World) (hb : w.cell? ⟨b, 0, none⟩ = some (.pointer none)) : Calls Tryz.prog 52 #[y, ptr b] w fun e w' => e = noRet ∧ w' = w := by
  go_enter Tryz.func52, Tryz.ntmps52
  go_wp2
  exact bodyPost_ret (v := .tuple #[]) (by simp [results, Tryz.results52, go_sem]) rfl ⟨rfl, rfl⟩
end Go.Proofs.YtggdgjifhikmiaaGreatDoor
