/- Contracts of event.fields, words, Word, About. Condition: a kind is a byte. -/
import Derived.Test.YtggdgjifhikmiaaGreatDoorConVer4
import Derived.Test.YtggdgjifhikmiaaGreatDoorConName2
set_option linter.unusedVariables false
namespace Go.Proofs.YtggdgjifhikmiaaGreatDoor
open Go.RowKit Yk
def fieldsOf (k : Int) : Bs :=
  if k = 1 then [119, 115] else if k = 2 then [119, 110, 118, 100, 115, 99, 122] else if k = 5 then [119, 110, 118, 116]
  else if k = 3 ∨ k = 4 then [119, 110, 118] else if k = 6 ∨ k = 7 then [119, 110, 104] else if k = 9 ∨ k = 10 then [119, 104, 109]
  else if k = 8 then [119, 104] else []
theorem fields_none {k : Int} (h0 : 0 ≤ k) (h : k < 1 ∨ 10 < k) : fieldsOf k = [] := by
  unfold fieldsOf
  rw [if_neg (by omega), if_neg (by omega), if_neg (by omega), if_neg (by omega), if_neg (by omega), if_neg (by omega), if_neg (by omega)]
def strE (l : Bs) : Ending := .returned (.string (mk l))
set_option maxHeartbeats 1000000 in
theorem fields_any (k : Int) (w : World) (h0 : 0 ≤ k) (h1 : k ≤ 255) :
    Calls Tryz.prog 87 #[.int .u8 k] w fun e w' => e = strE (fieldsOf k) ∧ w = w' := by
  by_cases hk : k < 1 ∨ 10 < k
  · have HF := Lib.hid (fields_none h0 hk)
    have g1 : (k == 1) = false := by rw [beq_eq_false_iff_ne]; omega
    have g2 : (k == 2) = false := by rw [beq_eq_false_iff_ne]; omega
    have g3 : (k == 3) = false := by rw [beq_eq_false_iff_ne]; omega
    have g4 : (k == 4) = false := by rw [beq_eq_false_iff_ne]; omega
    have g5 : (k == 5) = false := by rw [beq_eq_false_iff_ne]; omega
    have g6 : (k == 6) = false := by rw [beq_eq_false_iff_ne]; omega
    have g7 : (k == 7) = false := by rw [beq_eq_false_iff_ne]; omega
    have g8 : (k == 8) = false := by rw [beq_eq_false_iff_ne]; omega
    have g9 : (k == 9) = false := by rw [beq_eq_false_iff_ne]; omega
    have g10 : (k == 10) = false := by rw [beq_eq_false_iff_ne]; omega
    clear hk
    go_enter Tryz.func87, Tryz.ntmps87
    go_wp2
    go_ret
    exact ⟨by unfold strE; rw [HF.out]; rfl, rfl⟩
  · obtain rfl | rfl | rfl | rfl | rfl | rfl | rfl | rfl | rfl | rfl : k = 1 ∨ k = 2 ∨ k = 3 ∨ k = 4 ∨ k = 5 ∨ k = 6 ∨ k = 7 ∨ k = 8 ∨ k = 9 ∨ k = 10 := by omega
    all_goals
      go_enter Tryz.func87, Tryz.ntmps87
      go_wp2
      go_ret
      exact ⟨rfl, rfl⟩
def wordsL : List Bs := [[], [97, 99, 99, 111, 117, 110, 116], [112, 117, 98, 108, 105, 115, 104], [121, 97, 110, 107], [117, 110, 121, 97, 110, 107], [100, 101, 112, 114, 101, 99, 97, 116, 101], [111, 119, 110], [100, 105, 115, 111, 119, 110], [116, 101, 97, 109], [106, 111, 105, 110], [108, 101, 97, 118, 101]]
def wordsCells : Array Value := (wordsL.map fun l => Value.string (mk l)).toArray
theorem wordsCell (w : World) (k : Nat) (h : k < 11) : (w.alloc (.cells wordsCells 9)).cell? ⟨w.heap.size, k, none⟩ = some (.string (mk (wordsL.getD k []))) := by
  unfold World.cell?
  rw [heap_alloc_new]
  have : wordsCells[k]? = some (.string (mk (wordsL.getD k []))) := by
    unfold wordsCells
    have hl : wordsL.length = 11 := rfl
    simp [List.getD_eq_getElem?_getD, List.getElem?_eq_getElem (show k < wordsL.length by omega)]
  simpa using this
set_option maxHeartbeats 1000000 in
theorem words_any (w : World) :
    Calls Tryz.prog 88 #[] w fun e w' => e = .returned (.slice (some ⟨w.heap.size, 0, none⟩) 11 11) ∧ (∀ k, k < 11 → w'.cell? ⟨w.heap.size, k, none⟩ = some (.string (mk (wordsL.getD k [])))) ∧ Below w.heap.size w w' := by
  have HC := Lib.hid (wordsCell w)
  go_enter Tryz.func88, Tryz.ntmps88
  go_wp2
  go_ret
  exact ⟨rfl, HC.out, (Below.refl _ _).alloc (Nat.le_refl _) _⟩
/-- event.Word: the word; none -/
def wordOf (k : Int) : Bs := if 1 ≤ k ∧ k ≤ 10 then wordsL.getD k.toNat [] else []
def wordRet (k : Int) : Ending := .returned (.tuple #[.string (mk (wordOf k)), .int .i64 (if 1 ≤ k ∧ k ≤ 10 then 0 else 2)])
theorem wordRet_no {k : Int} (h : k < 1 ∨ 10 < k) : .returned (.tuple #[.string ⟨#[]⟩, .int .i64 2]) = wordRet k := by
  unfold wordRet wordOf; rw [if_neg (by omega), if_neg (by omega)]
theorem wordRet_yes {n : Nat} (h : 1 ≤ n) (h' : n ≤ 10) : .returned (.tuple #[.string (mk (wordsL.getD n [])), .int .i64 0]) = wordRet n := by
  unfold wordRet wordOf; rw [if_pos (by omega), if_pos (by omega)]; rfl
theorem fields_some {n : Nat} (h : 1 ≤ n) (h' : n ≤ 10) : (fieldsOf n).isEmpty = false := by
  have : n = 1 ∨ n = 2 ∨ n = 3 ∨ n = 4 ∨ n = 5 ∨ n = 6 ∨ n = 7 ∨ n = 8 ∨ n = 9 ∨ n = 10 := by omega
  rcases this with rfl | rfl | rfl | rfl | rfl | rfl | rfl | rfl | rfl | rfl <;> rfl
set_option maxHeartbeats 1000000 in
theorem word_any (k : Int) (w : World) (h0 : 0 ≤ k) (h1 : k ≤ 255) :
    Calls Tryz.prog 35 #[.int .u8 k] w fun e w' => e = wordRet k ∧ Below w.heap.size w w' := by
  by_cases hk : k < 1 ∨ 10 < k
  · have HF := Lib.hid (fields_none h0 hk)
    have HW := Lib.hid (wordRet_no hk)
    clear hk
    go_enter Tryz.func35, Tryz.ntmps35
    go_wp2_with (go_at_call 87; refine (fields_any _ _ h0 h1).mono ?_)
    rintro e w1 ⟨rfl, rfl⟩
    unfold strE
    rw [HF.out]
    go_wp2
    go_ret2
    exact ⟨HW.out, Below.refl _ _⟩
  · obtain ⟨n, rfl⟩ := Int.eq_ofNat_of_zero_le h0
    have hn1 : 1 ≤ n := by omega
    have hn2 : n ≤ 10 := by omega
    have he := fields_some hn1 hn2
    have HW := Lib.hid (wordRet_yes hn1 hn2)
    clear hk h0 h1
    go_enter Tryz.func35, Tryz.ntmps35
    go_wp2_with (go_at_call 87; refine (fields_any _ _ (by omega) (by omega)).mono ?_)
    rintro e w1 ⟨rfl, rfl⟩
    unfold strE
    obtain ⟨fl, hfl⟩ : ∃ fl, fieldsOf n = fl := ⟨_, rfl⟩
    rw [hfl] at he ⊢
    clear hfl
    go_wp2_with (go_at_call 88; refine (words_any _).mono ?_)
    rintro e w1 ⟨rfl, hc, hb⟩
    have c := hc n (by omega)
    clear hc
    obtain ⟨wd, hwd⟩ : ∃ wd, wordsL.getD n [] = wd := ⟨_, rfl⟩
    rw [hwd] at c
    have HWD := Lib.hid hwd; clear hwd
    go_wp2
    go_ret2
    have h := HW.out
    rw [HWD.out] at h
    exact ⟨h, hb⟩
theorem contains_n (k : Int) : Lib.contains (fieldsOf k) [110] = decide (k = 2 ∨ k = 3 ∨ k = 4 ∨ k = 5 ∨ k = 6 ∨ k = 7) := by
  unfold fieldsOf
  split
  · next h => subst h; rfl
  split
  · next h => subst h; rfl
  split
  · next h => subst h; rfl
  split
  · next h => rcases h with h | h <;> (subst h; rfl)
  split
  · next h => rcases h with h | h <;> (subst h; rfl)
  split
  · next h => rcases h with h | h <;> (subst h; rfl)
  split
  · next h => subst h; rfl
  · rw [eq_comm, decide_eq_false (by omega)]; rfl
end Go.Proofs.YtggdgjifhikmiaaGreatDoor
