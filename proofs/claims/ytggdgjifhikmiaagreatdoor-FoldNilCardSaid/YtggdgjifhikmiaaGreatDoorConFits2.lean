/- Contract of fold.fits. Conditions: the kind is one of the ten; bounds of the texts. -/
import Derived.Test.YtggdgjifhikmiaaGreatDoorConFitsA
import Derived.Test.YtggdgjifhikmiaaGreatDoorConFitsD
set_option linter.unusedVariables false
namespace Go.Proofs.YtggdgjifhikmiaaGreatDoor
open Go.RowKit Yk
set_option maxHeartbeats 4000000 in
set_option maxRecDepth 100000 in
theorem fits_any (k : Int) (who nm ver hold note : ByteArray) (nd : List (ByteArray × ByteArray)) (sm n sz : Int) (nv : Value) (S : St) (w : World) (hk : 1 ≤ k ∧ k ≤ 10)
    (hnm : nm.size ≤ 140737488355328) (h : StAt w S) (hn : NeedsAt w nv nd) :
    Calls Tryz.prog 37 #[ptr S.sid, .agg (evCells ⟨k, who, nm, ver, nd, sm, n, sz, hold, note⟩ nv)] w fun e w' => e = .returned (.bool (fitsS S ⟨k, who, nm, ver, nd, sm, n, sz, hold, note⟩)) ∧ Below w.heap.size w w' := by
  by_cases hbig : k ≠ 1 ∧ (aget who S.accts).isSome = true
  · obtain ⟨h1, h2⟩ := hbig
    have hkk : k = 2 ∨ k = 3 ∨ k = 4 ∨ k = 5 ∨ k = 6 ∨ k = 7 ∨ k = 8 ∨ k = 9 ∨ k = 10 := by omega
    rcases hkk with rfl | rfl | rfl | rfl | rfl | rfl | rfl | rfl | rfl
    · exact fits_2 who nm ver hold note nd sm n sz nv S w hnm h hn h2
    · exact fits_3 who nm ver hold note nd sm n sz nv S w hnm h hn h2
    · exact fits_4 who nm ver hold note nd sm n sz nv S w hnm h hn h2
    · exact fits_5 who nm ver hold note nd sm n sz nv S w hnm h hn h2
    · exact fits_6 who nm ver hold note nd sm n sz nv S w hnm h hn h2
    · exact fits_7 who nm ver hold note nd sm n sz nv S w hnm h hn h2
    · exact fits_8 who nm ver hold note nd sm n sz nv S w hnm h hn h2
    · exact fits_9 who nm ver hold note nd sm n sz nv S w hnm h hn h2
    · exact fits_10 who nm ver hold note nd sm n sz nv S w hnm h hn h2
  unfold evCells
  obtain ⟨A, cp, rfl, _⟩ := hn
  have hb1 : Below w.heap.size w (w.alloc (.cells (evCells ⟨k, who, nm, ver, nd, sm, n, sz, hold, note⟩ (.slice A nd.length cp)) 36)) := (Below.refl _ _).alloc (Nat.le_refl _) _
  have h0 := h.next hb1
  by_cases hk1 : k = 1
  · subst hk1
    obtain ⟨q, hq⟩ : ∃ q, someS S who = q := ⟨_, rfl⟩
    have HF : Hid (fitsS S ⟨1, who, nm, ver, nd, sm, n, sz, hold, note⟩ = !q) := Lib.hid (by rw [← hq]; rfl)
    go_enter Tryz.func37, Tryz.ntmps37
    go_wp2_with (go_at_call 91; refine (somebody_any _ S who h0).mono ?_; rw [hq]; rintro e w1 ⟨rfl, rfl⟩)
    go_ret
    exact ⟨ret_bool HF.out.symm, hb1⟩
  · have HK := Lib.hid hk; have HK1 := Lib.hid hk1
    have g1 : (k == 1) = false := by rw [beq_eq_false_iff_ne]; exact hk1
    obtain ⟨c0, c1, c2, c3, c4⟩ := h0.cells
    have lA := fun m => lkA (h0.drew m) who
    obtain ⟨qa, hqa⟩ : ∃ q, (aget who S.accts).isSome = q := ⟨_, rfl⟩
    obtain ⟨xa, hxa⟩ : ∃ q, (aget who S.accts).getD 0 = q := ⟨_, rfl⟩
    rw [hqa, hxa] at lA
    have HQA := Lib.hid hqa
    clear hk hk1 hqa hxa
    cases qa with
    | false =>
      have HF : Hid (fitsS S ⟨k, who, nm, ver, nd, sm, n, sz, hold, note⟩ = false) := Lib.hid (by unfold fitsS; rw [if_neg HK1.out, if_pos (by show (!(aget who S.accts).isSome) = true; rw [HQA.out]; rfl)])
      go_enter Tryz.func37, Tryz.ntmps37
      go_wp2
      go_quiet (fail)
      go_wp2
      go_ret
      exact ⟨ret_bool HF.out.symm, bseq hb1 (below_drewN'' _ _)⟩
    | true => exact absurd ⟨HK1.out, HQA.out⟩ hbig
end Go.Proofs.YtggdgjifhikmiaaGreatDoor
