/- Contracts of api.Errno.Error, api.Fault.Error, api.Fault.Unwrap. -/
import Derived.Test.YtggdgjifhikmiaaGreatDoorConMake
import Derived.Test.YtggdgjifhikmiaaGreatDoorConIs
set_option linter.unusedVariables false
namespace Go.Proofs.YtggdgjifhikmiaaGreatDoor
open Go.RowKit Yk
set_option maxHeartbeats 1000000 in
theorem errnoError_any (c : Int) (w : World) (hg : Glob w) (h0 : 0 ≤ c) (h1 : c ≤ 1000000) (hl : (Lib.itoa c).length ≤ 100) :
    Calls Tryz.prog 351 #[.int .i64 c] w fun e w' => ∃ s : ByteArray, e = .returned (.string s) ∧ (6 ≤ s.size ∧ s.size ≤ 106) ∧ Below w.heap.size w w' := by
  obtain ⟨t, ht⟩ : ∃ t : ByteArray, (⟨(Lib.itoa c).toArray⟩ : ByteArray) = t := ⟨_, rfl⟩
  have hsz : t.size ≤ 100 := by rw [← ht]; simpa [ByteArray.size] using hl
  have HC : Hid (Calls Tryz.prog 262 #[.int .i64 c] w fun e w' => e = .returned (.string t) ∧ Below w.heap.size w w') := Lib.hid ((Tryz.strconv_Itoa c (by omega) (by omega) w hg.tab).mono (by
    rintro e w' ⟨rfl, k, os, rfl⟩
    rw [ht]
    exact ⟨rfl, Lib.below_grow w.heap.size w (Nat.le_refl _) k os⟩))
  have HS := Lib.hid hsz
  clear ht
  go_enter Tryz.func351, Tryz.ntmps351
  go_wp2_with (go_at_call 262; refine (HC.out).mono ?_)
  first | rintro e w1 rfl hb2 | rintro e w1 ⟨rfl, hb2⟩
  go_wp2
  go_ret
  refine ⟨_, rfl, ?_, hb2⟩
  have := HS.out
  have e6 : (⟨#[101, 114, 114, 111, 114, 32]⟩ : ByteArray).size = 6 := rfl
  simp only [ByteArray.size_append, e6]
  omega
set_option maxHeartbeats 2000000 in
theorem faultError_neg (g : Nat) (c : Int) (what : ByteArray) (w : World) (hg : Glob w) (h : w.heap[g]? = some (.cells (faultCells c what (-1)) 108 (0, 0))) (h0 : 0 ≤ c) (h1 : c ≤ 1000000) (hl : (Lib.itoa c).length ≤ 100) (hw : what.size ≤ 1000000) :
    Calls Tryz.prog 352 #[ptr g] w fun e w' => ∃ s : ByteArray, e = .returned (.string s) ∧ 0 < s.size ∧ Below w.heap.size w w' := by
  have c0 := cells_of_block h 0; have c1 := cells_of_block h 1; have c2 := cells_of_block h 2; have c3 := cells_of_block h 3
  simp only [faultCells] at c0 c1 c2 c3
  have H := Lib.hid h
  have HC := Lib.hid (errnoError_any c w hg h0 h1 hl)
  have HW := Lib.hid hw
  clear h hl hw
  by_cases hwe : what.toList = []
  · go_enter Tryz.func352, Tryz.ntmps352
    go_wp2_with (go_at_call 351; refine (HC.out).mono ?_)
    rintro e w1 ⟨s, rfl, hs, hb⟩
    have H1 := (hb.block _ (Array.getElem?_eq_some_iff.1 H.out).1).trans H.out
    have d0 := cells_of_block H1 0; have d1 := cells_of_block H1 1; have d2 := cells_of_block H1 2; have d3 := cells_of_block H1 3
    simp only [faultCells] at d0 d1 d2 d3
    have HS := Lib.hid hs; have HB := Lib.hid hb
    clear H1 hs hb c0 c1 c2 c3
    go_wp2
    go_ret
    have := HS.out
    exact ⟨_, rfl, by omega, HB.out⟩
  · go_enter Tryz.func352, Tryz.ntmps352
    go_wp2_with (go_at_call 351; refine (HC.out).mono ?_)
    rintro e w1 ⟨s, rfl, hs, hb⟩
    have H1 := (hb.block _ (Array.getElem?_eq_some_iff.1 H.out).1).trans H.out
    have d0 := cells_of_block H1 0; have d1 := cells_of_block H1 1; have d2 := cells_of_block H1 2; have d3 := cells_of_block H1 3
    simp only [faultCells] at d0 d1 d2 d3
    have HS := Lib.hid hs; have HB := Lib.hid hb
    clear H1 hs hb c0 c1 c2 c3
    have a1 := HS.out.1; have a2 := HS.out.2; have a3 := HW.out
    have a4 : what.toList.isEmpty = false := by simpa using hwe
    go_wp2
    go_ret
    exact ⟨_, rfl, by simp only [ByteArray.size_append]; omega, HB.out⟩
end Go.Proofs.YtggdgjifhikmiaaGreatDoor
