/- Contracts of fold.Like; of the asking methods at a state that is not there. -/
import Derived.Test.YtggdgjifhikmiaaGreatDoorConSt4
set_option linter.unusedVariables false
namespace Go.Proofs.YtggdgjifhikmiaaGreatDoor
open Go.RowKit Yk
set_option maxHeartbeats 1000000 in
theorem headNil (w : World) : Calls Tryz.prog 15 #[.pointer none] w fun e w' => e = .returned (.int .i64 0) ∧ w' = w := by
  go_enter Tryz.func15, Tryz.ntmps15
  go_wp2
  go_ret
  exact ⟨rfl, rfl⟩
set_option maxHeartbeats 1000000 in
theorem packNil (n : ByteArray) (w : World) : Calls Tryz.prog 55 #[.pointer none, .string n] w fun e w' => e = .returned (.pointer none) ∧ w' = w := by
  go_enter Tryz.func55, Tryz.ntmps55
  go_wp2
  go_ret
  exact ⟨rfl, rfl⟩
set_option maxHeartbeats 1000000 in
theorem copyNil (w : World) : Calls Tryz.prog 26 #[.pointer none] w fun e w' => e = .returned (.pointer none) ∧ w' = w := by
  go_enter Tryz.func26, Tryz.ntmps26
  go_wp2
  go_ret
  exact ⟨rfl, rfl⟩
set_option maxHeartbeats 1000000 in
theorem accountsNil (w : World) : Calls Tryz.prog 27 #[.pointer none] w fun e w' => e = .returned (.slice none 0 0) ∧ w' = w := by
  go_enter Tryz.func27, Tryz.ntmps27
  go_wp2
  go_ret
  exact ⟨rfl, rfl⟩
set_option maxHeartbeats 1000000 in
theorem teamsNil (w : World) : Calls Tryz.prog 28 #[.pointer none] w fun e w' => e = .returned (.slice none 0 0) ∧ w' = w := by
  go_enter Tryz.func28, Tryz.ntmps28
  go_wp2
  go_ret
  exact ⟨rfl, rfl⟩
set_option maxHeartbeats 1000000 in
theorem accountNil (n : ByteArray) (w : World) : Calls Tryz.prog 21 #[.pointer none, .string n] w fun e w' => e = .returned (.tuple #[.int .u64 0, .bool false]) ∧ w' = w := by
  go_enter Tryz.func21, Tryz.ntmps21
  go_wp2
  go_ret2
  exact ⟨rfl, rfl⟩
set_option maxHeartbeats 1000000 in
theorem membersNil (n : ByteArray) (w : World) : Calls Tryz.prog 22 #[.pointer none, .string n] w fun e w' => e = .returned (.tuple #[.slice none 0 0, .bool false]) ∧ w' = w := by
  go_enter Tryz.func22, Tryz.ntmps22
  go_wp2
  go_ret2
  exact ⟨rfl, rfl⟩
set_option maxHeartbeats 1000000 in
theorem holdersNil (n : ByteArray) (w : World) : Calls Tryz.prog 23 #[.pointer none, .string n] w fun e w' => e = .returned (.tuple #[.slice none 0 0, .bool false]) ∧ w' = w := by
  go_enter Tryz.func23, Tryz.ntmps23
  go_wp2_with (go_at_call 55; refine (packNil n _).mono ?_; rintro e w1 ⟨rfl, rfl⟩)
  go_ret2
  exact ⟨rfl, rfl⟩
set_option maxHeartbeats 1000000 in
theorem touchedNil (n : ByteArray) (w : World) : Calls Tryz.prog 29 #[.pointer none, .string n] w fun e w' => e = .returned (.int .i64 0) ∧ w' = w := by
  go_enter Tryz.func29, Tryz.ntmps29
  go_wp2_with (go_at_call 55; refine (packNil n _).mono ?_; rintro e w1 ⟨rfl, rfl⟩)
  go_ret
  exact ⟨rfl, rfl⟩
set_option maxHeartbeats 1000000 in
theorem releasesNil (n : ByteArray) (w : World) : Calls Tryz.prog 30 #[.pointer none, .string n] w fun e w' => e = .returned (.slice none 0 0) ∧ w' = w := by
  go_enter Tryz.func30, Tryz.ntmps30
  go_wp2_with (go_at_call 55; refine (packNil n _).mono ?_; rintro e w1 ⟨rfl, rfl⟩)
  go_ret
  exact ⟨rfl, rfl⟩
set_option maxHeartbeats 1000000 in
theorem sameNil (w : World) : Calls Tryz.prog 31 #[.pointer none, .pointer none] w fun e w' => e = .returned (.bool false) ∧ Below w.heap.size w w' := by
  go_enter Tryz.func31, Tryz.ntmps31
  go_wp2
  go_quiet (fail)
  go_wp2
  go_ret
  exact ⟨rfl, below_drewN'' _ _⟩
set_option maxHeartbeats 2000000 in
set_option maxRecDepth 100000 in
theorem releaseNil (n v : ByteArray) (w : World) : Calls Tryz.prog 24 #[.pointer none, .string n, .string v] w fun e w' => e = .returned (.tuple #[.agg (relCells zeroRel), .bool false]) ∧ Below w.heap.size w w' := by
  unfold relCells
  have F := heap_alloc_new w Z64
  obtain ⟨y0, y1, y2, y3, y4, y5, y6, y7, y8⟩ := relcells F
  go_enter Tryz.func24, Tryz.ntmps24
  go_wp2_with (go_at_call 55; refine (packNil n _).mono ?_; rintro e w1 ⟨rfl, rfl⟩)
  refine bodyPost_ret (v := .tuple #[.agg (relCells zeroRel), .bool false]) ?_ rfl ?_
  · have y0' : (w.alloc Z64).cell? ⟨w.heap.size, 0, none⟩ = some (.string ⟨#[]⟩) := y0
    have y1' : (w.alloc Z64).cell? ⟨w.heap.size, 1, none⟩ = some (.string ⟨#[]⟩) := y1
    have y8' : (w.alloc Z64).cell? ⟨w.heap.size, 8, none⟩ = some (.string ⟨#[]⟩) := y8
    have y2' : (w.alloc Z64).cell? ⟨w.heap.size, 2, none⟩ = some (.int .i64 0) := y2
    have y3' : (w.alloc Z64).cell? ⟨w.heap.size, 3, none⟩ = some (.slice none 0 0) := y3
    have y4' : (w.alloc Z64).cell? ⟨w.heap.size, 4, none⟩ = some (.int .u64 0) := y4
    have y5' : (w.alloc Z64).cell? ⟨w.heap.size, 5, none⟩ = some (.int .u32 0) := y5
    have y6' : (w.alloc Z64).cell? ⟨w.heap.size, 6, none⟩ = some (.int .u32 0) := y6
    have y7' : (w.alloc Z64).cell? ⟨w.heap.size, 7, none⟩ = some (.bool false) := y7
    simp [results, Tryz.results24, go_sem, zeroRel]
  · exact ⟨rfl, (Below.refl _ _).alloc (Nat.le_refl _) _⟩
end Go.Proofs.YtggdgjifhikmiaaGreatDoor
