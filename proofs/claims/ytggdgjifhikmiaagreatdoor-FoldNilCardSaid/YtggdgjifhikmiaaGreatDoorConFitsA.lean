/- Contract of fold.fits at the kinds 3, 4. Contract of fold.fits at the kinds 5, 8. Contract of fold.fits at the kinds 6. -/
import Derived.Test.YtggdgjifhikmiaaGreatDoorConFits
set_option linter.unusedVariables false
namespace Go.Proofs.YtggdgjifhikmiaaGreatDoor
open Go.RowKit Yk
set_option maxHeartbeats 4000000 in
set_option maxRecDepth 100000 in
theorem fits_3 (who nm ver hold note : ByteArray) (nd : List (ByteArray × ByteArray)) (sm n sz : Int) (nv : Value) (S : St) (w : World)
    (hnm : nm.size ≤ 140737488355328) (h : StAt w S) (hn : NeedsAt w nv nd) (hqa : (aget who S.accts).isSome = true) :
    Calls Tryz.prog 37 #[ptr S.sid, .agg (evCells ⟨3, who, nm, ver, nd, sm, n, sz, hold, note⟩ nv)] w fun e w' => e = .returned (.bool (fitsS S ⟨3, who, nm, ver, nd, sm, n, sz, hold, note⟩)) ∧ Below w.heap.size w w' := by
  unfold evCells
  obtain ⟨A, cp, rfl, _⟩ := hn
  have hb1 : Below w.heap.size w (w.alloc (.cells (evCells ⟨3, who, nm, ver, nd, sm, n, sz, hold, note⟩ (.slice A nd.length cp)) 36)) := (Below.refl _ _).alloc (Nat.le_refl _) _
  have h0 := h.next hb1
  obtain ⟨c0, c1, c2, c3, c4⟩ := h0.cells
  have lA := fun m => lkA (h0.drew m) who
  obtain ⟨xa, hxa⟩ : ∃ q, (aget who S.accts).getD 0 = q := ⟨_, rfl⟩
  rw [hqa, hxa] at lA
  have HQA := Lib.hid hqa
  clear hxa hqa
  have lK := fun m => lkK (h0.drew m) nm
  obtain ⟨pp, hpp⟩ : ∃ q, (aget nm S.packs).map (fun p => (⟨p.pid, 0, none⟩ : Addr)) = q := ⟨_, rfl⟩
  rw [hpp] at lK
  have HPP := Lib.hid hpp
  obtain ⟨⟨rver, rby, rat, rnv, rnd, rsum, rn, rsz, ryk, rnote⟩, hrel⟩ : ∃ q, relOf S nm ver = q := ⟨_, rfl⟩
  obtain ⟨ri, hri⟩ : ∃ q, relIs S nm ver = q := ⟨_, rfl⟩
  have HREL := Lib.hid hrel; have HRI := Lib.hid hri
  have HR : Hid (∀ W, StAt W S → Calls Tryz.prog 24 #[ptr S.sid, .string nm, .string ver] W fun e w' => ∃ nv, e = .returned (.tuple #[.agg (relCells ⟨rver, rby, rat, nv, rnd, rsum, rn, rsz, ryk, rnote⟩), .bool ri]) ∧ NeedsK w' nv rnd ∧ Below W.heap.size W w') := Lib.hid (fun W hW => by
    have := release_any S nm ver W hW
    rw [hrel, hri] at this
    exact this)
  obtain ⟨tt, htt⟩ : ∃ q, (aget hold S.teams).map Tm.tid = q := ⟨_, rfl⟩
  obtain ⟨ti, hti⟩ : ∃ q, (aget hold S.teams).isSome = q := ⟨_, rfl⟩
  have HTT := Lib.hid htt; have HTI := Lib.hid hti
  have LT : Hid (∀ W, StAt W S → (Instr.lookup 76 (.map (some S.tid)) (.string hold) true).run Tryz.prog W = .ok (.tuple #[.map tt, .bool ti]) W) := Lib.hid (fun W hW => by
    have := lkT hW hold
    rwa [htt, hti] at this)
  have HFS : Hid (fitsS S ⟨3, who, nm, ver, nd, sm, n, sz, hold, note⟩ = (if (3 : Int) = 2 then !ri && likeOk S nm else if (3 : Int) = 3 then ri && !ryk else if (3 : Int) = 4 then ri && ryk else if (3 : Int) = 5 then ri && !decide (rnote = note) else if (3 : Int) = 6 then (aget nm S.packs).isSome && (someS S hold && !holdS S nm hold) else if (3 : Int) = 7 then holdS S nm hold else if (3 : Int) = 8 then !someS S hold else if (3 : Int) = 9 then ti && ((aget note S.accts).isSome && !memS S hold note) else memS S hold note)) := Lib.hid (by
    unfold fitsS
    rw [if_neg (by show ¬ ((3 : Int) = 1); decide), if_neg (by show ¬ (!(aget who S.accts).isSome) = true; rw [HQA.out]; decide), hri, hrel, hti])
  have HW0 := Lib.hid h0
  clear hpp hrel hri htt hti h
  · cases ri <;> cases ryk
    · skip
      go_enter Tryz.func37, Tryz.ntmps37
      go_wp2
      go_quiet (fail)
      go_wp2
      go_quiet (fail)
      go_wp2_with (go_at_call 24; refine (HR.out _ (h0.drew _)).mono ?_)
      rintro e w1 ⟨nv1, rfl, hk2, hb2⟩
      obtain ⟨⟨A1, cc1, hA1, _⟩, _⟩ := hk2
      subst hA1
      have hb3 := bseq (bseq hb1 (below_drewN'' _ _)) hb2
      have h1 := (h0.drew _).next hb2
      have E1 := (hb2.block w.heap.size (by simp)).trans (heap_alloc_new w _)
      have hsz1 := hb3.size
      have hb4 : Below w1.heap.size w1 (w1.alloc (.cells (relCells ⟨rver, rby, rat, .slice A1 rnd.length cc1, rnd, rsum, rn, rsz, false, rnote⟩) 64)) := (Below.refl _ _).alloc (Nat.le_refl _) _
      have h4 := h1.next hb4
      obtain ⟨s0, s1, s2, s3, s4⟩ := h4.cells
      obtain ⟨e0, e1, e2, e3, e4, e5, e6, e7, e8, e9⟩ := evcells ((hb4.block w.heap.size (Array.getElem?_eq_some_iff.1 E1).1).trans E1)
      have lT := fun m => LT.out _ (h4.drew m)
      have HB := Lib.hid (bseq hb3 hb4)
      have HH4 := Lib.hid h4
      clear E1 hb2 hb3 h1 hb4 h4
      go_wp2
      go_quiet (fail)
      go_wp2
      go_ret
      exact ⟨ret_bool HFS.out.symm, bseq HB.out (below_drewN'' _ _)⟩
    · skip
      go_enter Tryz.func37, Tryz.ntmps37
      go_wp2
      go_quiet (fail)
      go_wp2
      go_quiet (fail)
      go_wp2_with (go_at_call 24; refine (HR.out _ (h0.drew _)).mono ?_)
      rintro e w1 ⟨nv1, rfl, hk2, hb2⟩
      obtain ⟨⟨A1, cc1, hA1, _⟩, _⟩ := hk2
      subst hA1
      have hb3 := bseq (bseq hb1 (below_drewN'' _ _)) hb2
      have h1 := (h0.drew _).next hb2
      have E1 := (hb2.block w.heap.size (by simp)).trans (heap_alloc_new w _)
      have hsz1 := hb3.size
      have hb4 : Below w1.heap.size w1 (w1.alloc (.cells (relCells ⟨rver, rby, rat, .slice A1 rnd.length cc1, rnd, rsum, rn, rsz, true, rnote⟩) 64)) := (Below.refl _ _).alloc (Nat.le_refl _) _
      have h4 := h1.next hb4
      obtain ⟨s0, s1, s2, s3, s4⟩ := h4.cells
      obtain ⟨e0, e1, e2, e3, e4, e5, e6, e7, e8, e9⟩ := evcells ((hb4.block w.heap.size (Array.getElem?_eq_some_iff.1 E1).1).trans E1)
      have lT := fun m => LT.out _ (h4.drew m)
      have HB := Lib.hid (bseq hb3 hb4)
      have HH4 := Lib.hid h4
      clear E1 hb2 hb3 h1 hb4 h4
      go_wp2
      go_quiet (fail)
      go_wp2
      go_ret
      exact ⟨ret_bool HFS.out.symm, bseq HB.out (below_drewN'' _ _)⟩
    · skip
      go_enter Tryz.func37, Tryz.ntmps37
      go_wp2
      go_quiet (fail)
      go_wp2
      go_quiet (fail)
      go_wp2_with (go_at_call 24; refine (HR.out _ (h0.drew _)).mono ?_)
      rintro e w1 ⟨nv1, rfl, hk2, hb2⟩
      obtain ⟨⟨A1, cc1, hA1, _⟩, _⟩ := hk2
      subst hA1
      have hb3 := bseq (bseq hb1 (below_drewN'' _ _)) hb2
      have h1 := (h0.drew _).next hb2
      have E1 := (hb2.block w.heap.size (by simp)).trans (heap_alloc_new w _)
      have hsz1 := hb3.size
      have hb4 : Below w1.heap.size w1 (w1.alloc (.cells (relCells ⟨rver, rby, rat, .slice A1 rnd.length cc1, rnd, rsum, rn, rsz, false, rnote⟩) 64)) := (Below.refl _ _).alloc (Nat.le_refl _) _
      have h4 := h1.next hb4
      obtain ⟨s0, s1, s2, s3, s4⟩ := h4.cells
      obtain ⟨e0, e1, e2, e3, e4, e5, e6, e7, e8, e9⟩ := evcells ((hb4.block w.heap.size (Array.getElem?_eq_some_iff.1 E1).1).trans E1)
      have lT := fun m => LT.out _ (h4.drew m)
      have HB := Lib.hid (bseq hb3 hb4)
      have HH4 := Lib.hid h4
      clear E1 hb2 hb3 h1 hb4 h4
      go_wp2
      go_quiet (fail)
      go_wp2
      go_ret
      exact ⟨ret_bool HFS.out.symm, bseq HB.out (below_drewN'' _ _)⟩
    · skip
      go_enter Tryz.func37, Tryz.ntmps37
      go_wp2
      go_quiet (fail)
      go_wp2
      go_quiet (fail)
      go_wp2_with (go_at_call 24; refine (HR.out _ (h0.drew _)).mono ?_)
      rintro e w1 ⟨nv1, rfl, hk2, hb2⟩
      obtain ⟨⟨A1, cc1, hA1, _⟩, _⟩ := hk2
      subst hA1
      have hb3 := bseq (bseq hb1 (below_drewN'' _ _)) hb2
      have h1 := (h0.drew _).next hb2
      have E1 := (hb2.block w.heap.size (by simp)).trans (heap_alloc_new w _)
      have hsz1 := hb3.size
      have hb4 : Below w1.heap.size w1 (w1.alloc (.cells (relCells ⟨rver, rby, rat, .slice A1 rnd.length cc1, rnd, rsum, rn, rsz, true, rnote⟩) 64)) := (Below.refl _ _).alloc (Nat.le_refl _) _
      have h4 := h1.next hb4
      obtain ⟨s0, s1, s2, s3, s4⟩ := h4.cells
      obtain ⟨e0, e1, e2, e3, e4, e5, e6, e7, e8, e9⟩ := evcells ((hb4.block w.heap.size (Array.getElem?_eq_some_iff.1 E1).1).trans E1)
      have lT := fun m => LT.out _ (h4.drew m)
      have HB := Lib.hid (bseq hb3 hb4)
      have HH4 := Lib.hid h4
      clear E1 hb2 hb3 h1 hb4 h4
      go_wp2
      go_quiet (fail)
      go_wp2
      go_ret
      exact ⟨ret_bool HFS.out.symm, bseq HB.out (below_drewN'' _ _)⟩
set_option maxHeartbeats 4000000 in
set_option maxRecDepth 100000 in
theorem fits_4 (who nm ver hold note : ByteArray) (nd : List (ByteArray × ByteArray)) (sm n sz : Int) (nv : Value) (S : St) (w : World)
    (hnm : nm.size ≤ 140737488355328) (h : StAt w S) (hn : NeedsAt w nv nd) (hqa : (aget who S.accts).isSome = true) :
    Calls Tryz.prog 37 #[ptr S.sid, .agg (evCells ⟨4, who, nm, ver, nd, sm, n, sz, hold, note⟩ nv)] w fun e w' => e = .returned (.bool (fitsS S ⟨4, who, nm, ver, nd, sm, n, sz, hold, note⟩)) ∧ Below w.heap.size w w' := by
  unfold evCells
  obtain ⟨A, cp, rfl, _⟩ := hn
  have hb1 : Below w.heap.size w (w.alloc (.cells (evCells ⟨4, who, nm, ver, nd, sm, n, sz, hold, note⟩ (.slice A nd.length cp)) 36)) := (Below.refl _ _).alloc (Nat.le_refl _) _
  have h0 := h.next hb1
  obtain ⟨c0, c1, c2, c3, c4⟩ := h0.cells
  have lA := fun m => lkA (h0.drew m) who
  obtain ⟨xa, hxa⟩ : ∃ q, (aget who S.accts).getD 0 = q := ⟨_, rfl⟩
  rw [hqa, hxa] at lA
  have HQA := Lib.hid hqa
  clear hxa hqa
  have lK := fun m => lkK (h0.drew m) nm
  obtain ⟨pp, hpp⟩ : ∃ q, (aget nm S.packs).map (fun p => (⟨p.pid, 0, none⟩ : Addr)) = q := ⟨_, rfl⟩
  rw [hpp] at lK
  have HPP := Lib.hid hpp
  obtain ⟨⟨rver, rby, rat, rnv, rnd, rsum, rn, rsz, ryk, rnote⟩, hrel⟩ : ∃ q, relOf S nm ver = q := ⟨_, rfl⟩
  obtain ⟨ri, hri⟩ : ∃ q, relIs S nm ver = q := ⟨_, rfl⟩
  have HREL := Lib.hid hrel; have HRI := Lib.hid hri
  have HR : Hid (∀ W, StAt W S → Calls Tryz.prog 24 #[ptr S.sid, .string nm, .string ver] W fun e w' => ∃ nv, e = .returned (.tuple #[.agg (relCells ⟨rver, rby, rat, nv, rnd, rsum, rn, rsz, ryk, rnote⟩), .bool ri]) ∧ NeedsK w' nv rnd ∧ Below W.heap.size W w') := Lib.hid (fun W hW => by
    have := release_any S nm ver W hW
    rw [hrel, hri] at this
    exact this)
  obtain ⟨tt, htt⟩ : ∃ q, (aget hold S.teams).map Tm.tid = q := ⟨_, rfl⟩
  obtain ⟨ti, hti⟩ : ∃ q, (aget hold S.teams).isSome = q := ⟨_, rfl⟩
  have HTT := Lib.hid htt; have HTI := Lib.hid hti
  have LT : Hid (∀ W, StAt W S → (Instr.lookup 76 (.map (some S.tid)) (.string hold) true).run Tryz.prog W = .ok (.tuple #[.map tt, .bool ti]) W) := Lib.hid (fun W hW => by
    have := lkT hW hold
    rwa [htt, hti] at this)
  have HFS : Hid (fitsS S ⟨4, who, nm, ver, nd, sm, n, sz, hold, note⟩ = (if (4 : Int) = 2 then !ri && likeOk S nm else if (4 : Int) = 3 then ri && !ryk else if (4 : Int) = 4 then ri && ryk else if (4 : Int) = 5 then ri && !decide (rnote = note) else if (4 : Int) = 6 then (aget nm S.packs).isSome && (someS S hold && !holdS S nm hold) else if (4 : Int) = 7 then holdS S nm hold else if (4 : Int) = 8 then !someS S hold else if (4 : Int) = 9 then ti && ((aget note S.accts).isSome && !memS S hold note) else memS S hold note)) := Lib.hid (by
    unfold fitsS
    rw [if_neg (by show ¬ ((4 : Int) = 1); decide), if_neg (by show ¬ (!(aget who S.accts).isSome) = true; rw [HQA.out]; decide), hri, hrel, hti])
  have HW0 := Lib.hid h0
  clear hpp hrel hri htt hti h
  · cases ri <;> cases ryk
    · skip
      go_enter Tryz.func37, Tryz.ntmps37
      go_wp2
      go_quiet (fail)
      go_wp2
      go_quiet (fail)
      go_wp2_with (go_at_call 24; refine (HR.out _ (h0.drew _)).mono ?_)
      rintro e w1 ⟨nv1, rfl, hk2, hb2⟩
      obtain ⟨⟨A1, cc1, hA1, _⟩, _⟩ := hk2
      subst hA1
      have hb3 := bseq (bseq hb1 (below_drewN'' _ _)) hb2
      have h1 := (h0.drew _).next hb2
      have E1 := (hb2.block w.heap.size (by simp)).trans (heap_alloc_new w _)
      have hsz1 := hb3.size
      have hb4 : Below w1.heap.size w1 (w1.alloc (.cells (relCells ⟨rver, rby, rat, .slice A1 rnd.length cc1, rnd, rsum, rn, rsz, false, rnote⟩) 64)) := (Below.refl _ _).alloc (Nat.le_refl _) _
      have h4 := h1.next hb4
      obtain ⟨s0, s1, s2, s3, s4⟩ := h4.cells
      obtain ⟨e0, e1, e2, e3, e4, e5, e6, e7, e8, e9⟩ := evcells ((hb4.block w.heap.size (Array.getElem?_eq_some_iff.1 E1).1).trans E1)
      have lT := fun m => LT.out _ (h4.drew m)
      have HB := Lib.hid (bseq hb3 hb4)
      have HH4 := Lib.hid h4
      clear E1 hb2 hb3 h1 hb4 h4
      go_wp2
      go_quiet (fail)
      go_wp2
      go_ret
      exact ⟨ret_bool HFS.out.symm, bseq HB.out (below_drewN'' _ _)⟩
    · skip
      go_enter Tryz.func37, Tryz.ntmps37
      go_wp2
      go_quiet (fail)
      go_wp2
      go_quiet (fail)
      go_wp2_with (go_at_call 24; refine (HR.out _ (h0.drew _)).mono ?_)
      rintro e w1 ⟨nv1, rfl, hk2, hb2⟩
      obtain ⟨⟨A1, cc1, hA1, _⟩, _⟩ := hk2
      subst hA1
      have hb3 := bseq (bseq hb1 (below_drewN'' _ _)) hb2
      have h1 := (h0.drew _).next hb2
      have E1 := (hb2.block w.heap.size (by simp)).trans (heap_alloc_new w _)
      have hsz1 := hb3.size
      have hb4 : Below w1.heap.size w1 (w1.alloc (.cells (relCells ⟨rver, rby, rat, .slice A1 rnd.length cc1, rnd, rsum, rn, rsz, true, rnote⟩) 64)) := (Below.refl _ _).alloc (Nat.le_refl _) _
      have h4 := h1.next hb4
      obtain ⟨s0, s1, s2, s3, s4⟩ := h4.cells
      obtain ⟨e0, e1, e2, e3, e4, e5, e6, e7, e8, e9⟩ := evcells ((hb4.block w.heap.size (Array.getElem?_eq_some_iff.1 E1).1).trans E1)
      have lT := fun m => LT.out _ (h4.drew m)
      have HB := Lib.hid (bseq hb3 hb4)
      have HH4 := Lib.hid h4
      clear E1 hb2 hb3 h1 hb4 h4
      go_wp2
      go_quiet (fail)
      go_wp2
      go_ret
      exact ⟨ret_bool HFS.out.symm, bseq HB.out (below_drewN'' _ _)⟩
    · skip
      go_enter Tryz.func37, Tryz.ntmps37
      go_wp2
      go_quiet (fail)
      go_wp2
      go_quiet (fail)
      go_wp2_with (go_at_call 24; refine (HR.out _ (h0.drew _)).mono ?_)
      rintro e w1 ⟨nv1, rfl, hk2, hb2⟩
      obtain ⟨⟨A1, cc1, hA1, _⟩, _⟩ := hk2
      subst hA1
      have hb3 := bseq (bseq hb1 (below_drewN'' _ _)) hb2
      have h1 := (h0.drew _).next hb2
      have E1 := (hb2.block w.heap.size (by simp)).trans (heap_alloc_new w _)
      have hsz1 := hb3.size
      have hb4 : Below w1.heap.size w1 (w1.alloc (.cells (relCells ⟨rver, rby, rat, .slice A1 rnd.length cc1, rnd, rsum, rn, rsz, false, rnote⟩) 64)) := (Below.refl _ _).alloc (Nat.le_refl _) _
      have h4 := h1.next hb4
      obtain ⟨s0, s1, s2, s3, s4⟩ := h4.cells
      obtain ⟨e0, e1, e2, e3, e4, e5, e6, e7, e8, e9⟩ := evcells ((hb4.block w.heap.size (Array.getElem?_eq_some_iff.1 E1).1).trans E1)
      have lT := fun m => LT.out _ (h4.drew m)
      have HB := Lib.hid (bseq hb3 hb4)
      have HH4 := Lib.hid h4
      clear E1 hb2 hb3 h1 hb4 h4
      go_wp2
      go_quiet (fail)
      go_wp2
      go_ret
      exact ⟨ret_bool HFS.out.symm, bseq HB.out (below_drewN'' _ _)⟩
    · skip
      go_enter Tryz.func37, Tryz.ntmps37
      go_wp2
      go_quiet (fail)
      go_wp2
      go_quiet (fail)
      go_wp2_with (go_at_call 24; refine (HR.out _ (h0.drew _)).mono ?_)
      rintro e w1 ⟨nv1, rfl, hk2, hb2⟩
      obtain ⟨⟨A1, cc1, hA1, _⟩, _⟩ := hk2
      subst hA1
      have hb3 := bseq (bseq hb1 (below_drewN'' _ _)) hb2
      have h1 := (h0.drew _).next hb2
      have E1 := (hb2.block w.heap.size (by simp)).trans (heap_alloc_new w _)
      have hsz1 := hb3.size
      have hb4 : Below w1.heap.size w1 (w1.alloc (.cells (relCells ⟨rver, rby, rat, .slice A1 rnd.length cc1, rnd, rsum, rn, rsz, true, rnote⟩) 64)) := (Below.refl _ _).alloc (Nat.le_refl _) _
      have h4 := h1.next hb4
      obtain ⟨s0, s1, s2, s3, s4⟩ := h4.cells
      obtain ⟨e0, e1, e2, e3, e4, e5, e6, e7, e8, e9⟩ := evcells ((hb4.block w.heap.size (Array.getElem?_eq_some_iff.1 E1).1).trans E1)
      have lT := fun m => LT.out _ (h4.drew m)
      have HB := Lib.hid (bseq hb3 hb4)
      have HH4 := Lib.hid h4
      clear E1 hb2 hb3 h1 hb4 h4
      go_wp2
      go_quiet (fail)
      go_wp2
      go_ret
      exact ⟨ret_bool HFS.out.symm, bseq HB.out (below_drewN'' _ _)⟩
end Go.Proofs.YtggdgjifhikmiaaGreatDoor
set_option linter.unusedVariables false
namespace Go.Proofs.YtggdgjifhikmiaaGreatDoor
open Go.RowKit Yk
set_option maxHeartbeats 4000000 in
set_option maxRecDepth 100000 in
theorem fits_5 (who nm ver hold note : ByteArray) (nd : List (ByteArray × ByteArray)) (sm n sz : Int) (nv : Value) (S : St) (w : World)
    (hnm : nm.size ≤ 140737488355328) (h : StAt w S) (hn : NeedsAt w nv nd) (hqa : (aget who S.accts).isSome = true) :
    Calls Tryz.prog 37 #[ptr S.sid, .agg (evCells ⟨5, who, nm, ver, nd, sm, n, sz, hold, note⟩ nv)] w fun e w' => e = .returned (.bool (fitsS S ⟨5, who, nm, ver, nd, sm, n, sz, hold, note⟩)) ∧ Below w.heap.size w w' := by
  unfold evCells
  obtain ⟨A, cp, rfl, _⟩ := hn
  have hb1 : Below w.heap.size w (w.alloc (.cells (evCells ⟨5, who, nm, ver, nd, sm, n, sz, hold, note⟩ (.slice A nd.length cp)) 36)) := (Below.refl _ _).alloc (Nat.le_refl _) _
  have h0 := h.next hb1
  obtain ⟨c0, c1, c2, c3, c4⟩ := h0.cells
  have lA := fun m => lkA (h0.drew m) who
  obtain ⟨xa, hxa⟩ : ∃ q, (aget who S.accts).getD 0 = q := ⟨_, rfl⟩
  rw [hqa, hxa] at lA
  have HQA := Lib.hid hqa
  clear hxa hqa
  have lK := fun m => lkK (h0.drew m) nm
  obtain ⟨pp, hpp⟩ : ∃ q, (aget nm S.packs).map (fun p => (⟨p.pid, 0, none⟩ : Addr)) = q := ⟨_, rfl⟩
  rw [hpp] at lK
  have HPP := Lib.hid hpp
  obtain ⟨⟨rver, rby, rat, rnv, rnd, rsum, rn, rsz, ryk, rnote⟩, hrel⟩ : ∃ q, relOf S nm ver = q := ⟨_, rfl⟩
  obtain ⟨ri, hri⟩ : ∃ q, relIs S nm ver = q := ⟨_, rfl⟩
  have HREL := Lib.hid hrel; have HRI := Lib.hid hri
  have HR : Hid (∀ W, StAt W S → Calls Tryz.prog 24 #[ptr S.sid, .string nm, .string ver] W fun e w' => ∃ nv, e = .returned (.tuple #[.agg (relCells ⟨rver, rby, rat, nv, rnd, rsum, rn, rsz, ryk, rnote⟩), .bool ri]) ∧ NeedsK w' nv rnd ∧ Below W.heap.size W w') := Lib.hid (fun W hW => by
    have := release_any S nm ver W hW
    rw [hrel, hri] at this
    exact this)
  obtain ⟨tt, htt⟩ : ∃ q, (aget hold S.teams).map Tm.tid = q := ⟨_, rfl⟩
  obtain ⟨ti, hti⟩ : ∃ q, (aget hold S.teams).isSome = q := ⟨_, rfl⟩
  have HTT := Lib.hid htt; have HTI := Lib.hid hti
  have LT : Hid (∀ W, StAt W S → (Instr.lookup 76 (.map (some S.tid)) (.string hold) true).run Tryz.prog W = .ok (.tuple #[.map tt, .bool ti]) W) := Lib.hid (fun W hW => by
    have := lkT hW hold
    rwa [htt, hti] at this)
  have HFS : Hid (fitsS S ⟨5, who, nm, ver, nd, sm, n, sz, hold, note⟩ = (if (5 : Int) = 2 then !ri && likeOk S nm else if (5 : Int) = 3 then ri && !ryk else if (5 : Int) = 4 then ri && ryk else if (5 : Int) = 5 then ri && !decide (rnote = note) else if (5 : Int) = 6 then (aget nm S.packs).isSome && (someS S hold && !holdS S nm hold) else if (5 : Int) = 7 then holdS S nm hold else if (5 : Int) = 8 then !someS S hold else if (5 : Int) = 9 then ti && ((aget note S.accts).isSome && !memS S hold note) else memS S hold note)) := Lib.hid (by
    unfold fitsS
    rw [if_neg (by show ¬ ((5 : Int) = 1); decide), if_neg (by show ¬ (!(aget who S.accts).isSome) = true; rw [HQA.out]; decide), hri, hrel, hti])
  have HW0 := Lib.hid h0
  clear hpp hrel hri htt hti h
  · cases ri
    · skip
      go_enter Tryz.func37, Tryz.ntmps37
      go_wp2
      go_quiet (fail)
      go_wp2
      go_quiet (fail)
      go_wp2_with (go_at_call 24; refine (HR.out _ (h0.drew _)).mono ?_)
      rintro e w1 ⟨nv1, rfl, hk2, hb2⟩
      obtain ⟨⟨A1, cc1, hA1, _⟩, _⟩ := hk2
      subst hA1
      have hb3 := bseq (bseq hb1 (below_drewN'' _ _)) hb2
      have h1 := (h0.drew _).next hb2
      have E1 := (hb2.block w.heap.size (by simp)).trans (heap_alloc_new w _)
      have hsz1 := hb3.size
      have hb4 : Below w1.heap.size w1 (w1.alloc (.cells (relCells ⟨rver, rby, rat, .slice A1 rnd.length cc1, rnd, rsum, rn, rsz, ryk, rnote⟩) 64)) := (Below.refl _ _).alloc (Nat.le_refl _) _
      have h4 := h1.next hb4
      obtain ⟨s0, s1, s2, s3, s4⟩ := h4.cells
      obtain ⟨e0, e1, e2, e3, e4, e5, e6, e7, e8, e9⟩ := evcells ((hb4.block w.heap.size (Array.getElem?_eq_some_iff.1 E1).1).trans E1)
      have lT := fun m => LT.out _ (h4.drew m)
      have HB := Lib.hid (bseq hb3 hb4)
      have HH4 := Lib.hid h4
      clear E1 hb2 hb3 h1 hb4 h4
      go_wp2
      go_quiet (fail)
      go_wp2
      go_ret
      exact ⟨ret_bool HFS.out.symm, bseq HB.out (below_drewN'' _ _)⟩
    · skip
      go_enter Tryz.func37, Tryz.ntmps37
      go_wp2
      go_quiet (fail)
      go_wp2
      go_quiet (fail)
      go_wp2_with (go_at_call 24; refine (HR.out _ (h0.drew _)).mono ?_)
      rintro e w1 ⟨nv1, rfl, hk2, hb2⟩
      obtain ⟨⟨A1, cc1, hA1, _⟩, _⟩ := hk2
      subst hA1
      have hb3 := bseq (bseq hb1 (below_drewN'' _ _)) hb2
      have h1 := (h0.drew _).next hb2
      have E1 := (hb2.block w.heap.size (by simp)).trans (heap_alloc_new w _)
      have hsz1 := hb3.size
      have hb4 : Below w1.heap.size w1 (w1.alloc (.cells (relCells ⟨rver, rby, rat, .slice A1 rnd.length cc1, rnd, rsum, rn, rsz, ryk, rnote⟩) 64)) := (Below.refl _ _).alloc (Nat.le_refl _) _
      have h4 := h1.next hb4
      obtain ⟨s0, s1, s2, s3, s4⟩ := h4.cells
      obtain ⟨e0, e1, e2, e3, e4, e5, e6, e7, e8, e9⟩ := evcells ((hb4.block w.heap.size (Array.getElem?_eq_some_iff.1 E1).1).trans E1)
      have lT := fun m => LT.out _ (h4.drew m)
      have HB := Lib.hid (bseq hb3 hb4)
      have HH4 := Lib.hid h4
      clear E1 hb2 hb3 h1 hb4 h4
      go_wp2
      go_quiet (fail)
      go_wp2
      go_ret
      refine ⟨ret_bool ?_, bseq HB.out (below_drewN'' _ _)⟩
      rw [HFS.out]
      have hbe : decide (rnote = note) = (rnote.toList == note.toList) := by
        rw [Bool.eq_iff_iff, decide_eq_true_iff, beq_iff_eq]
        exact ⟨fun e => by rw [e], bytes_eq⟩
      show _ = (true && !decide (rnote = note))
      rw [hbe]
      rfl
set_option maxHeartbeats 4000000 in
set_option maxRecDepth 100000 in
theorem fits_8 (who nm ver hold note : ByteArray) (nd : List (ByteArray × ByteArray)) (sm n sz : Int) (nv : Value) (S : St) (w : World)
    (hnm : nm.size ≤ 140737488355328) (h : StAt w S) (hn : NeedsAt w nv nd) (hqa : (aget who S.accts).isSome = true) :
    Calls Tryz.prog 37 #[ptr S.sid, .agg (evCells ⟨8, who, nm, ver, nd, sm, n, sz, hold, note⟩ nv)] w fun e w' => e = .returned (.bool (fitsS S ⟨8, who, nm, ver, nd, sm, n, sz, hold, note⟩)) ∧ Below w.heap.size w w' := by
  unfold evCells
  obtain ⟨A, cp, rfl, _⟩ := hn
  have hb1 : Below w.heap.size w (w.alloc (.cells (evCells ⟨8, who, nm, ver, nd, sm, n, sz, hold, note⟩ (.slice A nd.length cp)) 36)) := (Below.refl _ _).alloc (Nat.le_refl _) _
  have h0 := h.next hb1
  obtain ⟨c0, c1, c2, c3, c4⟩ := h0.cells
  have lA := fun m => lkA (h0.drew m) who
  obtain ⟨xa, hxa⟩ : ∃ q, (aget who S.accts).getD 0 = q := ⟨_, rfl⟩
  rw [hqa, hxa] at lA
  have HQA := Lib.hid hqa
  clear hxa hqa
  have lK := fun m => lkK (h0.drew m) nm
  obtain ⟨pp, hpp⟩ : ∃ q, (aget nm S.packs).map (fun p => (⟨p.pid, 0, none⟩ : Addr)) = q := ⟨_, rfl⟩
  rw [hpp] at lK
  have HPP := Lib.hid hpp
  obtain ⟨⟨rver, rby, rat, rnv, rnd, rsum, rn, rsz, ryk, rnote⟩, hrel⟩ : ∃ q, relOf S nm ver = q := ⟨_, rfl⟩
  obtain ⟨ri, hri⟩ : ∃ q, relIs S nm ver = q := ⟨_, rfl⟩
  have HREL := Lib.hid hrel; have HRI := Lib.hid hri
  have HR : Hid (∀ W, StAt W S → Calls Tryz.prog 24 #[ptr S.sid, .string nm, .string ver] W fun e w' => ∃ nv, e = .returned (.tuple #[.agg (relCells ⟨rver, rby, rat, nv, rnd, rsum, rn, rsz, ryk, rnote⟩), .bool ri]) ∧ NeedsK w' nv rnd ∧ Below W.heap.size W w') := Lib.hid (fun W hW => by
    have := release_any S nm ver W hW
    rw [hrel, hri] at this
    exact this)
  obtain ⟨tt, htt⟩ : ∃ q, (aget hold S.teams).map Tm.tid = q := ⟨_, rfl⟩
  obtain ⟨ti, hti⟩ : ∃ q, (aget hold S.teams).isSome = q := ⟨_, rfl⟩
  have HTT := Lib.hid htt; have HTI := Lib.hid hti
  have LT : Hid (∀ W, StAt W S → (Instr.lookup 76 (.map (some S.tid)) (.string hold) true).run Tryz.prog W = .ok (.tuple #[.map tt, .bool ti]) W) := Lib.hid (fun W hW => by
    have := lkT hW hold
    rwa [htt, hti] at this)
  have HFS : Hid (fitsS S ⟨8, who, nm, ver, nd, sm, n, sz, hold, note⟩ = (if (8 : Int) = 2 then !ri && likeOk S nm else if (8 : Int) = 3 then ri && !ryk else if (8 : Int) = 4 then ri && ryk else if (8 : Int) = 5 then ri && !decide (rnote = note) else if (8 : Int) = 6 then (aget nm S.packs).isSome && (someS S hold && !holdS S nm hold) else if (8 : Int) = 7 then holdS S nm hold else if (8 : Int) = 8 then !someS S hold else if (8 : Int) = 9 then ti && ((aget note S.accts).isSome && !memS S hold note) else memS S hold note)) := Lib.hid (by
    unfold fitsS
    rw [if_neg (by show ¬ ((8 : Int) = 1); decide), if_neg (by show ¬ (!(aget who S.accts).isSome) = true; rw [HQA.out]; decide), hri, hrel, hti])
  have HW0 := Lib.hid h0
  clear hpp hrel hri htt hti h
  · skip
    obtain ⟨q, hq⟩ : ∃ q, someS S hold = q := ⟨_, rfl⟩
    have HSB : Hid (∀ W, StAt W S → Calls Tryz.prog 91 #[ptr S.sid, .string hold] W fun e w' => e = .returned (.bool q) ∧ w' = W) := Lib.hid (fun W hW => by
      have := somebody_any W S hold hW
      rwa [hq] at this)
    have HF2 : Hid (fitsS S ⟨8, who, nm, ver, nd, sm, n, sz, hold, note⟩ = !q) := Lib.hid (by rw [HFS.out]; show (!someS S hold) = _; rw [hq])
    clear hq
    go_enter Tryz.func37, Tryz.ntmps37
    go_wp2
    go_quiet (fail)
    go_wp2
    go_quiet (fail)
    go_wp2_with (go_at_call 24; refine (HR.out _ (h0.drew _)).mono ?_)
    rintro e w1 ⟨nv1, rfl, hk2, hb2⟩
    obtain ⟨⟨A1, cc1, hA1, _⟩, _⟩ := hk2
    subst hA1
    have hb3 := bseq (bseq hb1 (below_drewN'' _ _)) hb2
    have h1 := (h0.drew _).next hb2
    have E1 := (hb2.block w.heap.size (by simp)).trans (heap_alloc_new w _)
    have hsz1 := hb3.size
    have hb4 : Below w1.heap.size w1 (w1.alloc (.cells (relCells ⟨rver, rby, rat, .slice A1 rnd.length cc1, rnd, rsum, rn, rsz, ryk, rnote⟩) 64)) := (Below.refl _ _).alloc (Nat.le_refl _) _
    have h4 := h1.next hb4
    obtain ⟨s0, s1, s2, s3, s4⟩ := h4.cells
    obtain ⟨e0, e1, e2, e3, e4, e5, e6, e7, e8, e9⟩ := evcells ((hb4.block w.heap.size (Array.getElem?_eq_some_iff.1 E1).1).trans E1)
    have lT := fun m => LT.out _ (h4.drew m)
    have HB := Lib.hid (bseq hb3 hb4)
    have HH4 := Lib.hid h4
    clear E1 hb2 hb3 h1 hb4 h4
    go_wp2
    go_quiet (fail)
    go_wp2_with (go_at_call 91; refine (HSB.out _ (HH4.out.drew _)).mono ?_; rintro e w2 ⟨rfl, rfl⟩)
    go_ret
    first | exact ⟨ret_bool HF2.out.symm, bseq HB.out (below_drewN'' _ _)⟩ | exact ⟨ret_bool HF2.out.symm, bseq HB.out (bseq (below_drewN'' _ _) (below_drewN'' _ _))⟩
end Go.Proofs.YtggdgjifhikmiaaGreatDoor
set_option linter.unusedVariables false
namespace Go.Proofs.YtggdgjifhikmiaaGreatDoor
open Go.RowKit Yk
set_option maxHeartbeats 4000000 in
set_option maxRecDepth 100000 in
theorem fits_6 (who nm ver hold note : ByteArray) (nd : List (ByteArray × ByteArray)) (sm n sz : Int) (nv : Value) (S : St) (w : World)
    (hnm : nm.size ≤ 140737488355328) (h : StAt w S) (hn : NeedsAt w nv nd) (hqa : (aget who S.accts).isSome = true) :
    Calls Tryz.prog 37 #[ptr S.sid, .agg (evCells ⟨6, who, nm, ver, nd, sm, n, sz, hold, note⟩ nv)] w fun e w' => e = .returned (.bool (fitsS S ⟨6, who, nm, ver, nd, sm, n, sz, hold, note⟩)) ∧ Below w.heap.size w w' := by
  unfold evCells
  obtain ⟨A, cp, rfl, _⟩ := hn
  have hb1 : Below w.heap.size w (w.alloc (.cells (evCells ⟨6, who, nm, ver, nd, sm, n, sz, hold, note⟩ (.slice A nd.length cp)) 36)) := (Below.refl _ _).alloc (Nat.le_refl _) _
  have h0 := h.next hb1
  obtain ⟨c0, c1, c2, c3, c4⟩ := h0.cells
  have lA := fun m => lkA (h0.drew m) who
  obtain ⟨xa, hxa⟩ : ∃ q, (aget who S.accts).getD 0 = q := ⟨_, rfl⟩
  rw [hqa, hxa] at lA
  have HQA := Lib.hid hqa
  clear hxa hqa
  have lK := fun m => lkK (h0.drew m) nm
  obtain ⟨pp, hpp⟩ : ∃ q, (aget nm S.packs).map (fun p => (⟨p.pid, 0, none⟩ : Addr)) = q := ⟨_, rfl⟩
  rw [hpp] at lK
  have HPP := Lib.hid hpp
  obtain ⟨⟨rver, rby, rat, rnv, rnd, rsum, rn, rsz, ryk, rnote⟩, hrel⟩ : ∃ q, relOf S nm ver = q := ⟨_, rfl⟩
  obtain ⟨ri, hri⟩ : ∃ q, relIs S nm ver = q := ⟨_, rfl⟩
  have HREL := Lib.hid hrel; have HRI := Lib.hid hri
  have HR : Hid (∀ W, StAt W S → Calls Tryz.prog 24 #[ptr S.sid, .string nm, .string ver] W fun e w' => ∃ nv, e = .returned (.tuple #[.agg (relCells ⟨rver, rby, rat, nv, rnd, rsum, rn, rsz, ryk, rnote⟩), .bool ri]) ∧ NeedsK w' nv rnd ∧ Below W.heap.size W w') := Lib.hid (fun W hW => by
    have := release_any S nm ver W hW
    rw [hrel, hri] at this
    exact this)
  obtain ⟨tt, htt⟩ : ∃ q, (aget hold S.teams).map Tm.tid = q := ⟨_, rfl⟩
  obtain ⟨ti, hti⟩ : ∃ q, (aget hold S.teams).isSome = q := ⟨_, rfl⟩
  have HTT := Lib.hid htt; have HTI := Lib.hid hti
  have LT : Hid (∀ W, StAt W S → (Instr.lookup 76 (.map (some S.tid)) (.string hold) true).run Tryz.prog W = .ok (.tuple #[.map tt, .bool ti]) W) := Lib.hid (fun W hW => by
    have := lkT hW hold
    rwa [htt, hti] at this)
  have HFS : Hid (fitsS S ⟨6, who, nm, ver, nd, sm, n, sz, hold, note⟩ = (if (6 : Int) = 2 then !ri && likeOk S nm else if (6 : Int) = 3 then ri && !ryk else if (6 : Int) = 4 then ri && ryk else if (6 : Int) = 5 then ri && !decide (rnote = note) else if (6 : Int) = 6 then (aget nm S.packs).isSome && (someS S hold && !holdS S nm hold) else if (6 : Int) = 7 then holdS S nm hold else if (6 : Int) = 8 then !someS S hold else if (6 : Int) = 9 then ti && ((aget note S.accts).isSome && !memS S hold note) else memS S hold note)) := Lib.hid (by
    unfold fitsS
    rw [if_neg (by show ¬ ((6 : Int) = 1); decide), if_neg (by show ¬ (!(aget who S.accts).isSome) = true; rw [HQA.out]; decide), hri, hrel, hti])
  have HW0 := Lib.hid h0
  clear hpp hrel hri htt hti h
  · cases hpk : aget nm S.packs with
    | none =>
      have hpn : pp = none := by rw [← HPP.out, hpk]; rfl
      subst hpn
      have HF2 : Hid (fitsS S ⟨6, who, nm, ver, nd, sm, n, sz, hold, note⟩ = false) := Lib.hid (by rw [HFS.out]; show ((aget nm S.packs).isSome && _) = false; rw [hpk]; rfl)
      clear hpk
      go_enter Tryz.func37, Tryz.ntmps37
      go_wp2
      go_quiet (fail)
      go_wp2
      go_quiet (fail)
      go_wp2_with (go_at_call 24; refine (HR.out _ (h0.drew _)).mono ?_)
      rintro e w1 ⟨nv1, rfl, hk2, hb2⟩
      obtain ⟨⟨A1, cc1, hA1, _⟩, _⟩ := hk2
      subst hA1
      have hb3 := bseq (bseq hb1 (below_drewN'' _ _)) hb2
      have h1 := (h0.drew _).next hb2
      have E1 := (hb2.block w.heap.size (by simp)).trans (heap_alloc_new w _)
      have hsz1 := hb3.size
      have hb4 : Below w1.heap.size w1 (w1.alloc (.cells (relCells ⟨rver, rby, rat, .slice A1 rnd.length cc1, rnd, rsum, rn, rsz, ryk, rnote⟩) 64)) := (Below.refl _ _).alloc (Nat.le_refl _) _
      have h4 := h1.next hb4
      obtain ⟨s0, s1, s2, s3, s4⟩ := h4.cells
      obtain ⟨e0, e1, e2, e3, e4, e5, e6, e7, e8, e9⟩ := evcells ((hb4.block w.heap.size (Array.getElem?_eq_some_iff.1 E1).1).trans E1)
      have lT := fun m => LT.out _ (h4.drew m)
      have HB := Lib.hid (bseq hb3 hb4)
      have HH4 := Lib.hid h4
      clear E1 hb2 hb3 h1 hb4 h4
      go_wp2
      go_quiet (fail)
      go_wp2
      go_quiet (fail)
      go_wp2
      go_ret
      first | exact ⟨ret_bool HF2.out.symm, bseq HB.out (below_drewN'' _ _)⟩ | exact ⟨ret_bool HF2.out.symm, bseq HB.out (bseq (below_drewN'' _ _) (below_drewN'' _ _))⟩
    | some p =>
      have hpn : pp = some ⟨p.pid, 0, none⟩ := by rw [← HPP.out, hpk]; rfl
      subst hpn
      have HPK := Lib.hid hpk
      obtain ⟨q, hq⟩ : ∃ q, someS S hold = q := ⟨_, rfl⟩
      have HSB : Hid (∀ W, StAt W S → Calls Tryz.prog 91 #[ptr S.sid, .string hold] W fun e w' => e = .returned (.bool q) ∧ w' = W) := Lib.hid (fun W hW => by
        have := somebody_any W S hold hW
        rwa [hq] at this)
      obtain ⟨hb, hhb⟩ : ∃ q, hasB hold p.holders = q := ⟨_, rfl⟩
      have HHB := Lib.hid hhb
      have HF2 : Hid (fitsS S ⟨6, who, nm, ver, nd, sm, n, sz, hold, note⟩ = (q && !hb)) := Lib.hid (by
        rw [HFS.out]; show ((aget nm S.packs).isSome && (someS S hold && !holdS S nm hold)) = _
        have hh : holdS S nm hold = hb := by unfold holdS; rw [hpk]; exact hhb
        rw [hh, hpk, hq]; rfl)
      clear hpk hq hhb
      cases q
      · skip
        go_enter Tryz.func37, Tryz.ntmps37
        go_wp2
        go_quiet (fail)
        go_wp2
        go_quiet (fail)
        go_wp2_with (go_at_call 24; refine (HR.out _ (h0.drew _)).mono ?_)
        rintro e w1 ⟨nv1, rfl, hk2, hb2⟩
        obtain ⟨⟨A1, cc1, hA1, _⟩, _⟩ := hk2
        subst hA1
        have hb3 := bseq (bseq hb1 (below_drewN'' _ _)) hb2
        have h1 := (h0.drew _).next hb2
        have E1 := (hb2.block w.heap.size (by simp)).trans (heap_alloc_new w _)
        have hsz1 := hb3.size
        have hb4 : Below w1.heap.size w1 (w1.alloc (.cells (relCells ⟨rver, rby, rat, .slice A1 rnd.length cc1, rnd, rsum, rn, rsz, ryk, rnote⟩) 64)) := (Below.refl _ _).alloc (Nat.le_refl _) _
        have h4 := h1.next hb4
        obtain ⟨s0, s1, s2, s3, s4⟩ := h4.cells
        obtain ⟨e0, e1, e2, e3, e4, e5, e6, e7, e8, e9⟩ := evcells ((hb4.block w.heap.size (Array.getElem?_eq_some_iff.1 E1).1).trans E1)
        have lT := fun m => LT.out _ (h4.drew m)
        have HB := Lib.hid (bseq hb3 hb4)
        have HH4 := Lib.hid h4
        clear E1 hb2 hb3 h1 hb4 h4
        go_wp2
        go_quiet (fail)
        have hpk4 := fun m => (HH4.out.drew m).pkAt HPK.out
        obtain ⟨d0, d1, d2⟩ := (HH4.out.pkAt HPK.out).cells
        have lB := fun m => lkB (hpk4 m).ho hold
        rw [HHB.out] at lB
        clear hpk4
        go_wp2
        go_quiet ((go_at_call 91; refine (HSB.out _ (HH4.out.drew _)).mono ?_; rintro e w2 ⟨rfl, rfl⟩; exact ⟨rfl, _, rfl⟩))
        go_wp2
        go_ret
        first | exact ⟨ret_bool HF2.out.symm, bseq HB.out (below_drewN'' _ _)⟩ | exact ⟨ret_bool HF2.out.symm, bseq HB.out (bseq (below_drewN'' _ _) (below_drewN'' _ _))⟩
      · skip
        go_enter Tryz.func37, Tryz.ntmps37
        go_wp2
        go_quiet (fail)
        go_wp2
        go_quiet (fail)
        go_wp2_with (go_at_call 24; refine (HR.out _ (h0.drew _)).mono ?_)
        rintro e w1 ⟨nv1, rfl, hk2, hb2⟩
        obtain ⟨⟨A1, cc1, hA1, _⟩, _⟩ := hk2
        subst hA1
        have hb3 := bseq (bseq hb1 (below_drewN'' _ _)) hb2
        have h1 := (h0.drew _).next hb2
        have E1 := (hb2.block w.heap.size (by simp)).trans (heap_alloc_new w _)
        have hsz1 := hb3.size
        have hb4 : Below w1.heap.size w1 (w1.alloc (.cells (relCells ⟨rver, rby, rat, .slice A1 rnd.length cc1, rnd, rsum, rn, rsz, ryk, rnote⟩) 64)) := (Below.refl _ _).alloc (Nat.le_refl _) _
        have h4 := h1.next hb4
        obtain ⟨s0, s1, s2, s3, s4⟩ := h4.cells
        obtain ⟨e0, e1, e2, e3, e4, e5, e6, e7, e8, e9⟩ := evcells ((hb4.block w.heap.size (Array.getElem?_eq_some_iff.1 E1).1).trans E1)
        have lT := fun m => LT.out _ (h4.drew m)
        have HB := Lib.hid (bseq hb3 hb4)
        have HH4 := Lib.hid h4
        clear E1 hb2 hb3 h1 hb4 h4
        go_wp2
        go_quiet (fail)
        have hpk4 := fun m => (HH4.out.drew m).pkAt HPK.out
        obtain ⟨d0, d1, d2⟩ := (HH4.out.pkAt HPK.out).cells
        have lB := fun m => lkB (hpk4 m).ho hold
        rw [HHB.out] at lB
        clear hpk4
        go_wp2
        go_quiet ((go_at_call 91; refine (HSB.out _ (HH4.out.drew _)).mono ?_; rintro e w2 ⟨rfl, rfl⟩; exact ⟨rfl, _, rfl⟩))
        go_wp2
        go_ret
        first | exact ⟨ret_bool HF2.out.symm, bseq HB.out (below_drewN'' _ _)⟩ | exact ⟨ret_bool HF2.out.symm, bseq HB.out (bseq (below_drewN'' _ _) (below_drewN'' _ _))⟩
end Go.Proofs.YtggdgjifhikmiaaGreatDoor
