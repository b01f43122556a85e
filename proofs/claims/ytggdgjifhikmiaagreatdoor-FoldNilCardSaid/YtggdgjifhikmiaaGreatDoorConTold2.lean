/- Contracts of (*api.Fault).Error at a place, of yanklinelaw10.is. No condition of its own. -/
import Derived.Test.YtggdgjifhikmiaaGreatDoorConTold
import Derived.Lib.ItoaLen
set_option linter.unusedVariables false
namespace Go.Proofs.YtggdgjifhikmiaaGreatDoor
open Go.RowKit Yk
structure ErrOk (c : Int) (what : ByteArray) (a : Int) : Prop where
  c0 : 0 ≤ c
  c1 : c ≤ 1000000
  wh : what.size ≤ 1000000
  a0 : -1 ≤ a
  a1 : a ≤ 1000000000
theorem itoa100 (n : Int) (h0 : -9223372036854775808 ≤ n) (h1 : n ≤ 9223372036854775807) : (Lib.itoa n).length ≤ 100 := Nat.le_trans (Lib.itoa_length_le n h0 h1) (by omega)
theorem itoaCall (c : Int) (w : World) (hg : Glob w) (h0 : -9223372036854775808 ≤ c) (h1 : c ≤ 9223372036854775807) : ∃ t : ByteArray, t.size ≤ 100 ∧ Calls Tryz.prog 262 #[.int .i64 c] w fun e w' => e = .returned (.string t) ∧ Below w.heap.size w w' := by
  refine ⟨⟨(Lib.itoa c).toArray⟩, by simpa [ByteArray.size] using itoa100 c h0 h1, (Tryz.strconv_Itoa c (by omega) (by omega) w hg.tab).mono ?_⟩
  rintro e w' ⟨rfl, k, os, rfl⟩
  exact ⟨rfl, Lib.below_grow w.heap.size w (Nat.le_refl _) k os⟩
set_option maxHeartbeats 4000000 in
theorem faultError_pos (g : Nat) (c a : Int) (what : ByteArray) (w : World) (hg : Glob w) (h : w.heap[g]? = some (.cells (faultCells c what a) 108 (0, 0))) (ho : ErrOk c what a) (ha : 0 ≤ a) :
    Calls Tryz.prog 352 #[ptr g] w fun e w' => ∃ s : ByteArray, e = .returned (.string s) ∧ 0 < s.size ∧ Below w.heap.size w w' := by
  have c0 := cells_of_block h 0; have c1 := cells_of_block h 1; have c2 := cells_of_block h 2; have c3 := cells_of_block h 3
  simp only [faultCells] at c0 c1 c2 c3
  have H := Lib.hid h; have HG := Lib.hid hg
  have HC := Lib.hid (errnoError_any c w hg ho.c0 ho.c1 (itoa100 c (by have := ho.c0; omega) (by have := ho.c1; omega)))
  have HW := Lib.hid ho.wh
  have ha1 := ho.a1
  clear h hg ho
  by_cases hwe : what.toList = []
  · go_enter Tryz.func352, Tryz.ntmps352
    go_wp2_with (go_at_call 351; refine (HC.out).mono ?_)
    rintro e w1 ⟨s, rfl, hs, hb⟩
    have H1 := (hb.block _ (Array.getElem?_eq_some_iff.1 H.out).1).trans H.out
    have d0 := cells_of_block H1 0; have d1 := cells_of_block H1 1; have d2 := cells_of_block H1 2; have d3 := cells_of_block H1 3
    simp only [faultCells] at d0 d1 d2 d3
    obtain ⟨t, ht, hcall⟩ := itoaCall a w1 (HG.out.next hb) (by omega) (by omega)
    have HIT := Lib.hid hcall
    have HH1 := Lib.hid H1; have HS := Lib.hid hs; have HB := Lib.hid hb; have HT := Lib.hid ht
    clear H1 hs hb c0 c1 c2 c3 hcall ht
    go_wp2_with (go_at_call 262; refine (HIT.out).mono ?_)
    first | rintro e w2 rfl hb2 | rintro e w2 ⟨rfl, hb2⟩
    have H2 := (hb2.block _ (Array.getElem?_eq_some_iff.1 HH1.out).1).trans HH1.out
    have x3 := cells_of_block H2 3
    simp only [faultCells] at x3
    have HB2 := Lib.hid hb2
    clear H2 hb2 d0 d1 d2 d3
    have z1 := HS.out.1; have z2 := HS.out.2; have z3 := HT.out
    go_wp2
    go_ret
    exact ⟨_, rfl, by simp only [ByteArray.size_append]; omega, bseq HB.out HB2.out⟩
  · go_enter Tryz.func352, Tryz.ntmps352
    go_wp2_with (go_at_call 351; refine (HC.out).mono ?_)
    rintro e w1 ⟨s, rfl, hs, hb⟩
    have H1 := (hb.block _ (Array.getElem?_eq_some_iff.1 H.out).1).trans H.out
    have d0 := cells_of_block H1 0; have d1 := cells_of_block H1 1; have d2 := cells_of_block H1 2; have d3 := cells_of_block H1 3
    simp only [faultCells] at d0 d1 d2 d3
    obtain ⟨t, ht, hcall⟩ := itoaCall a w1 (HG.out.next hb) (by omega) (by omega)
    have HIT := Lib.hid hcall
    have HH1 := Lib.hid H1; have HS := Lib.hid hs; have HB := Lib.hid hb; have HT := Lib.hid ht
    clear H1 hs hb c0 c1 c2 c3 hcall ht
    have a1 := HS.out.1; have a2 := HS.out.2; have a3 := HW.out
    have a4 : what.toList.isEmpty = false := by simpa using hwe
    go_wp2_with (go_at_call 262; refine (HIT.out).mono ?_)
    first | rintro e w2 rfl hb2 | rintro e w2 ⟨rfl, hb2⟩
    have H2 := (hb2.block _ (Array.getElem?_eq_some_iff.1 HH1.out).1).trans HH1.out
    have x3 := cells_of_block H2 3
    simp only [faultCells] at x3
    have HB2 := Lib.hid hb2
    have z3 := HT.out
    clear H2 hb2 d0 d1 d2 d3
    go_wp2
    go_ret
    exact ⟨_, rfl, by simp only [ByteArray.size_append]; omega, bseq HB.out HB2.out⟩
theorem faultError_any (g : Nat) (c a : Int) (what : ByteArray) (w : World) (hg : Glob w) (h : w.heap[g]? = some (.cells (faultCells c what a) 108 (0, 0))) (ho : ErrOk c what a) :
    Calls Tryz.prog 352 #[ptr g] w fun e w' => ∃ s : ByteArray, e = .returned (.string s) ∧ 0 < s.size ∧ Below w.heap.size w w' := by
  by_cases ha : 0 ≤ a
  · exact faultError_pos g c a what w hg h ho ha
  · obtain rfl : a = -1 := by have := ho.a0; omega
    exact faultError_neg g c what w hg h ho.c0 ho.c1 (itoa100 c (by have := ho.c0; omega) (by have := ho.c1; omega)) ho.wh
theorem told_any (g : Nat) (c a : Int) (what : ByteArray) (w : World) (hg : Glob w) (h : w.heap[g]? = some (.cells (faultCells c what a) 108 (0, 0))) (ho : ErrOk c what a) :
    Calls Tryz.prog 48 #[faultV g] w fun e w' => e = tripleE c what a ∧ Below w.heap.size w w' :=
  told_fault g c a what w hg h (fun W h1 h2 => faultError_any g c a what W h1 h2 ho)
set_option maxHeartbeats 2000000 in
theorem is_nil (of_ : ByteArray) (a : Int) (w : World) : Calls Tryz.prog 13 #[.nilIface, .int .i64 0, .string of_, .int .i64 a] w fun e w' => e = .returned (.bool true) ∧ w' = w := by
  go_enter Tryz.func13, Tryz.ntmps13
  go_wp2
  go_ret
  exact ⟨rfl, rfl⟩
set_option maxHeartbeats 2000000 in
theorem is_fault (g : Nat) (c a : Int) (what : ByteArray) (w : World) (hg : Glob w) (h : w.heap[g]? = some (.cells (faultCells c what a) 108 (0, 0))) (ho : ErrOk c what a) (hc : c ≠ 0) :
    Calls Tryz.prog 13 #[faultV g, .int .i64 c, .string what, .int .i64 a] w fun e w' => e = .returned (.bool true) ∧ Below w.heap.size w w' := by
  have HT := Lib.hid (told_any g c a what w hg h ho)
  have hc1 : (c == 0) = false := by simpa using hc
  clear hg h ho
  go_enter Tryz.func13, Tryz.ntmps13
  go_wp2_with (go_at_call 48; refine (HT.out).mono ?_)
  first | rintro e w1 rfl hb | rintro e w1 ⟨rfl, hb⟩
  unfold tripleE
  go_wp2
  go_ret
  exact ⟨rfl, hb⟩
/-- what an error says is what is asked -/
theorem is_any (v : Value) (c a : Int) (what : ByteArray) (w : World) (hg : Glob w) (h : ErrIs w v c what a) (ho : ErrOk c what a) :
    Calls Tryz.prog 13 #[v, .int .i64 c, .string what, .int .i64 a] w fun e w' => e = .returned (.bool true) ∧ Below w.heap.size w w' := by
  rcases h with ⟨rfl, rfl⟩ | ⟨hc, g, rfl, hgg⟩
  · exact (is_nil what a w).mono (by rintro e w' ⟨rfl, rfl⟩; exact ⟨rfl, Below.refl _ _⟩)
  · exact is_fault g c a what w hg hgg ho hc
end Go.Proofs.YtggdgjifhikmiaaGreatDoor
