/- Contracts of slices.Clone and slices.Clip at []api.Need. No condition of its own. -/
import Derived.Test.YtggdgjifhikmiaaGreatDoorConSt
import Derived.Lib.SliceRun
import Derived.Lib.Walk
set_option linter.unusedVariables false
namespace Go.Proofs.YtggdgjifhikmiaaGreatDoor
open Go.RowKit Yk
def needVals : List (ByteArray × ByteArray) → List Value
  | [] => []
  | x :: r => .string x.1 :: .string x.2 :: needVals r
theorem needVals_len : ∀ xs, (needVals xs).length = xs.length * 2
  | [] => rfl
  | x :: r => by simp [needVals, needVals_len r]; omega
theorem needVals_at : ∀ (xs : List (ByteArray × ByteArray)) (j : Nat) (h : j < xs.length), (needVals xs)[j * 2]? = some (.string (xs[j]'h).1) ∧ (needVals xs)[j * 2 + 1]? = some (.string (xs[j]'h).2)
  | x :: r, 0, h => ⟨rfl, rfl⟩
  | x :: r, j + 1, h => by
    have := needVals_at r j (by simpa using h)
    rw [show (j + 1) * 2 = (j * 2 + 1) + 1 by omega]
    simpa [needVals] using this
theorem needVals_cell {w : World} {b off : Nat} {xs : List (ByteArray × ByteArray)} (hc : ∀ j (h : j < xs.length), w.cell? ⟨b, off + j * 2, none⟩ = some (.string (xs[j]'h).1) ∧ w.cell? ⟨b, off + j * 2 + 1, none⟩ = some (.string (xs[j]'h).2)) :
    ∀ i u, (needVals xs)[i]? = some u → w.cell? ⟨b, off + i, none⟩ = some u := by
  intro i u hu
  have hi : i < xs.length * 2 := by rw [← needVals_len]; exact (List.getElem?_eq_some_iff.1 hu).1
  obtain ⟨h1, h2⟩ := needVals_at xs (i / 2) (by omega)
  obtain ⟨g1, g2⟩ := hc (i / 2) (by omega)
  rcases Nat.mod_two_eq_zero_or_one i with h | h
  · rw [show i / 2 * 2 = i by omega] at h1 g1
    rw [h1] at hu; rw [g1, ← hu]
  · rw [show i / 2 * 2 + 1 = i by omega] at h2
    rw [show off + i / 2 * 2 + 1 = off + i by omega] at g2
    rw [h2] at hu; rw [g2, ← hu]
theorem needVals_one : ∀ (xs : List (ByteArray × ByteArray)), ∀ u ∈ needVals xs, u.oneCell' = true
  | [], u, h => by cases h
  | x :: r, u, h => by
    simp only [needVals, List.mem_cons] at h
    rcases h with rfl | rfl | h
    · rfl
    · rfl
    · exact needVals_one r u h
theorem needsK_of_row' {w : World} {base n m : Nat} {v : Value} {xs : List (ByteArray × ByteArray)} {vs : List Value} (hown : w.ownsRow base 47 2 v n vs) (h : NeedsAt w v xs) : NeedsK w v xs := by
  refine ⟨h, fun a n' c e => ?_⟩
  subst e
  obtain ⟨_, h | ⟨g, cap, cur, hv, _, hb, _⟩⟩ := hown
  · obtain ⟨h, _⟩ := h; cases h
  · cases hv
    exact ⟨_, _, hb⟩
theorem needsAt_of_row {w : World} {base n : Nat} {T : TypeId} {v : Value} {xs : List (ByteArray × ByteArray)} (hown : w.ownsRow base T 2 v n (needVals xs)) (hn : n = xs.length) (hl : xs.length * 32 ≤ 140737488355328)
    (hx : ∀ x ∈ xs, x.1.size ≤ 140737488355328 ∧ x.2.size ≤ 140737488355328) : NeedsAt w v xs := by
  subst hn
  obtain ⟨_, h | ⟨g, cap, cur, rfl, _, hb, hc, _, hs, ht⟩⟩ := hown
  · obtain ⟨rfl, h0⟩ := h
    rw [List.eq_nil_of_length_eq_zero h0]
    exact NeedsAt.nil w
  · refine ⟨_, _, rfl, ⟨hc, hl⟩, hx, fun h0 => ⟨g, 0, rfl, (Array.getElem?_eq_some_iff.1 hb).1, fun j hj => ?_⟩⟩
    have hcell : ∀ i u, (needVals xs)[i]? = some u → w.cell? ⟨g, 0 + i, none⟩ = some u := by
      intro i u hu
      have hi : i < xs.length * 2 := by rw [← needVals_len]; exact (List.getElem?_eq_some_iff.1 hu).1
      rw [← ht, List.getElem?_take_of_lt hi] at hu
      rw [cells_of_block hb, Nat.zero_add]
      simpa using hu
    obtain ⟨h1, h2⟩ := needVals_at xs j hj
    exact ⟨hcell _ _ h1, hcell _ _ h2⟩
theorem infoNeed : (Tryz.prog.info? 47).map (fun i => (i.zero, i.size, i.bytes)) = some (some (.agg #[.string ⟨#[]⟩, .string ⟨#[]⟩]), 2, 32) := by kernel_rfl
set_option maxHeartbeats 2000000 in
theorem cloneNeeds_any (v : Value) (xs : List (ByteArray × ByteArray)) (w : World) (hx : NeedsAt w v xs) :
    Calls Tryz.prog 94 #[v] w fun e w' => ∃ v', e = .returned v' ∧ NeedsK w' v' xs ∧ Below w.heap.size w w' := by
  obtain ⟨A, c, rfl, ⟨hm1, hm2⟩, hsz, ha⟩ := hx
  have q22 : ∀ (w : World) (a : Option Addr) (n c n' c' : Nat), (binOp .eql 32 (.slice a n c) (.slice none n' c')).run Tryz.prog w = .ok (.bool a.isNone) w := fun w a n c n' c' => Lib.run_eql_slice_nil w _ _ a n c n' c' Tryz.underlying32
  have HS := Lib.hid hsz
  have HA := Lib.hid ha
  clear hsz ha
  cases A with
  | none =>
    have h0 : xs = [] := by
      rcases Nat.eq_zero_or_pos xs.length with h | h
      · exact List.eq_nil_of_length_eq_zero h
      · obtain ⟨b, off, hA, _⟩ := HA.out h; cases hA
    subst h0
    go_enter Tryz.func94, Tryz.ntmps94
    go_wp2
    go_ret
    exact ⟨_, rfl, NeedsK.nil w, Below.refl _ _⟩
  | some ad =>
    obtain ⟨i0, hi, hz0, hz1, hz2⟩ := info_parts infoNeed
    have HN : Hid (∀ j u, (needVals xs)[j]? = some u → w.cell? (ad.add j) = some u) := Lib.hid (by
      rcases Nat.eq_zero_or_pos xs.length with h | h
      · intro j u hu
        rw [List.eq_nil_of_length_eq_zero h] at hu; simp [needVals] at hu
      · obtain ⟨b, off, hA, _, hc⟩ := HA.out h
        cases hA
        intro j u hu
        rw [Addr.add_lit]
        exact needVals_cell hc j u hu)
    have HM := Lib.hid hm2; have HM1 := Lib.hid hm1
    clear hm2 hm1
    go_enter Tryz.func94, Tryz.ntmps94
    go_wp2_with (at_builtin; refine wpList_append_own _ rfl _ _ 32 rfl w.heap.size 47 i0 (.agg #[.string ⟨#[]⟩, .string ⟨#[]⟩]) 2 32 Tryz.underlying32 hi hz0 hz1 hz2 rfl (by decide) _ _ _ rfl (World.ownsRow_made w #[] 0 (Nat.le_refl _) (Nat.zero_le _) (by simp)) ad xs.length c (needVals xs) rfl ?qc1 ?qc2 ?qc3 ?qc4 ?qc5 ?qc6 ?_)
    case qc1 => exact needVals_len xs
    case qc2 => intro j u hj; exact Lib.cell?_alloc_some _ (HN.out j u hj)
    case qc3 => exact needVals_one xs
    case qc4 => have := HM.out; unfold maxLen; omega
    case qc5 => have := HM.out; omega
    case qc6 => simp
    intro v' w1 hown hgrow hnil
    go_wp2
    go_ret
    refine ⟨v', rfl, needsK_of_row' (m := 0) hown (needsAt_of_row (by simpa using hown) (by simp) HM.out HS.out), ?_⟩
    exact ((Below.refl _ w).alloc (Nat.le_refl _) _).grown hgrow (by simp) (by intro k hk; simp [Value.ownBlock] at hk; omega)
set_option maxHeartbeats 2000000 in
theorem clipNeeds_any (v : Value) (xs : List (ByteArray × ByteArray)) (w : World) (hx : NeedsK w v xs) :
    Calls Tryz.prog 108 #[v] w fun e w' => ∃ v', e = .returned v' ∧ NeedsK w v' xs ∧ w' = w := by
  obtain ⟨⟨A, c, rfl, ⟨hm1, hm2⟩, hsz, ha⟩, hK⟩ := hx
  have HK := Lib.hid hK; clear hK
  have HS := Lib.hid hsz
  have HA := Lib.hid ha
  have hm3 : xs.length ≤ 140737488355328 := by omega
  have HM := Lib.hid hm2
  clear hsz ha hm2
  go_enter Tryz.func108, Tryz.ntmps108
  go_wp2
  go_ret
  exact ⟨_, rfl, ⟨⟨A, xs.length, rfl, ⟨Nat.le_refl _, HM.out⟩, HS.out, HA.out⟩, fun a n c' e => by cases e; exact HK.out a _ _ rfl⟩, rfl⟩
end Go.Proofs.YtggdgjifhikmiaaGreatDoor
