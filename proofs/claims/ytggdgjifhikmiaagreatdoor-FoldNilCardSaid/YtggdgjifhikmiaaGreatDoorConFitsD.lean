/- Contract of fold.fits at the kinds 7. Contract of fold.fits at the kinds 9. Contract of fold.fits at the kinds 10. Contract of fold.fits at the kinds 2. -/
import Derived.Test.YtggdgjifhikmiaaGreatDoorConFits
set_option linter.unusedVariables false
namespace Go.Proofs.YtggdgjifhikmiaaGreatDoor
open Go.RowKit Yk
set_option maxHeartbeats 4000000 in
set_option maxRecDepth 100000 in
theorem fits_7 (who nm ver hold note : ByteArray) (nd : List (ByteArray × ByteArray)) (sm n sz : Int) (nv : Value) (S : St) (w : World)
    (hnm : nm.size ≤ 140737488355328) (h : StAt w S) (hn : NeedsAt w nv nd) (hqa : (aget who S.accts).isSome = true) :
    Calls Tryz.prog 37 #[ptr S.sid, .agg (evCells ⟨7, who, nm, ver, nd, sm, n, sz, hold, note⟩ nv)] w fun e w' => e = .returned (.bool (fitsS S ⟨7, who, nm, ver, nd, sm, n, sz, hold, note⟩)) ∧ Below w.heap.size w w' := by
  unfold evCells
  obtain ⟨A, cp, rfl, _⟩ := hn
  have hb1 : Below w.heap.size w (w.alloc (.cells (evCells ⟨7, who, nm, ver, nd, sm, n, sz, hold, note⟩ (.slice A nd.length cp)) 36)) := (Below.refl _ _).alloc (Nat.le_refl _) _
  have h0 := h.next hb1
  obtain ⟨c0, c1, c2, c3, c4⟩ := h0.cells
  have lA := fun m => lkA (h0.drew m) who
  obtain ⟨xa, hxa⟩ : ∃ q, (aget who S.accts).getD 0 = q := ⟨_, rfl⟩
  rw [hqa, hxa] at lA
  have HQA := Lib.hid hqa
  clear hxa hqa
  have lK := fun m => lkK (h0.drew m) nm
  obtain ⟨pp, hpp⟩ : ∃ q, (aget nm S.packs).map (fun p => (⟨p.pid, 0, none⟩ : Addr)) = q := ⟨_, rfl⟩
  rw [hpp] at lK
  have HPP := Lib.hid hpp
  obtain ⟨⟨rver, rby, rat, rnv, rnd, rsum, rn, rsz, ryk, rnote⟩, hrel⟩ : ∃ q, relOf S nm ver = q := ⟨_, rfl⟩
  obtain ⟨ri, hri⟩ : ∃ q, relIs S nm ver = q := ⟨_, rfl⟩
  have HREL := Lib.hid hrel; have HRI := Lib.hid hri
  have HR : Hid (∀ W, StAt W S → Calls Tryz.prog 24 #[ptr S.sid, .string nm, .string ver] W fun e w' => ∃ nv, e = .returned (.tuple #[.agg (relCells ⟨rver, rby, rat, nv, rnd, rsum, rn, rsz, ryk, rnote⟩), .bool ri]) ∧ NeedsK w' nv rnd ∧ Below W.heap.size W w') := Lib.hid (fun W hW => by
    have := release_any S nm ver W hW
    rw [hrel, hri] at this
    exact this)
  obtain ⟨tt, htt⟩ : ∃ q, (aget hold S.teams).map Tm.tid = q := ⟨_, rfl⟩
  obtain ⟨ti, hti⟩ : ∃ q, (aget hold S.teams).isSome = q := ⟨_, rfl⟩
  have HTT := Lib.hid htt; have HTI := Lib.hid hti
  have LT : Hid (∀ W, StAt W S → (Instr.lookup 76 (.map (some S.tid)) (.string hold) true).run Tryz.prog W = .ok (.tuple #[.map tt, .bool ti]) W) := Lib.hid (fun W hW => by
    have := lkT hW hold
    rwa [htt, hti] at this)
  have HFS : Hid (fitsS S ⟨7, who, nm, ver, nd, sm, n, sz, hold, note⟩ = (if (7 : Int) = 2 then !ri && likeOk S nm else if (7 : Int) = 3 then ri && !ryk else if (7 : Int) = 4 then ri && ryk else if (7 : Int) = 5 then ri && !decide (rnote = note) else if (7 : Int) = 6 then (aget nm S.packs).isSome && (someS S hold && !holdS S nm hold) else if (7 : Int) = 7 then holdS S nm hold else if (7 : Int) = 8 then !someS S hold else if (7 : Int) = 9 then ti && ((aget note S.accts).isSome && !memS S hold note) else memS S hold note)) := Lib.hid (by
    unfold fitsS
    rw [if_neg (by show ¬ ((7 : Int) = 1); decide), if_neg (by show ¬ (!(aget who S.accts).isSome) = true; rw [HQA.out]; decide), hri, hrel, hti])
  have HW0 := Lib.hid h0
  clear hpp hrel hri htt hti h
  · cases hpk : aget nm S.packs with
    | none =>
      have hpn : pp = none := by rw [← HPP.out, hpk]; rfl
      subst hpn
      have HF2 : Hid (fitsS S ⟨7, who, nm, ver, nd, sm, n, sz, hold, note⟩ = false) := Lib.hid (by rw [HFS.out]; show holdS S nm hold = false; unfold holdS; rw [hpk])
      clear hpk
      go_enter Tryz.func37, Tryz.ntmps37
      go_wp2
      go_quiet (fail)
      go_wp2
      go_quiet (fail)
      go_wp2_with (go_at_call 24; refine (HR.out _ (h0.drew _)).mono ?_)
      rintro e w1 ⟨nv1, rfl, hk2, hb2⟩
      obtain ⟨⟨A1, cc1, hA1, _⟩, _⟩ := hk2
      subst hA1
      have hb3 := bseq (bseq hb1 (below_drewN'' _ _)) hb2
      have h1 := (h0.drew _).next hb2
      have E1 := (hb2.block w.heap.size (by simp)).trans (heap_alloc_new w _)
      have hsz1 := hb3.size
      have hb4 : Below w1.heap.size w1 (w1.alloc (.cells (relCells ⟨rver, rby, rat, .slice A1 rnd.length cc1, rnd, rsum, rn, rsz, ryk, rnote⟩) 64)) := (Below.refl _ _).alloc (Nat.le_refl _) _
      have h4 := h1.next hb4
      obtain ⟨s0, s1, s2, s3, s4⟩ := h4.cells
      obtain ⟨e0, e1, e2, e3, e4, e5, e6, e7, e8, e9⟩ := evcells ((hb4.block w.heap.size (Array.getElem?_eq_some_iff.1 E1).1).trans E1)
      have lT := fun m => LT.out _ (h4.drew m)
      have HB := Lib.hid (bseq hb3 hb4)
      have HH4 := Lib.hid h4
      clear E1 hb2 hb3 h1 hb4 h4
      go_wp2
      go_quiet (fail)
      go_wp2
      go_quiet (fail)
      go_wp2
      go_ret
      first | exact ⟨ret_bool HF2.out.symm, bseq HB.out (below_drewN'' _ _)⟩ | exact ⟨ret_bool HF2.out.symm, bseq HB.out (bseq (below_drewN'' _ _) (below_drewN'' _ _))⟩
    | some p =>
      have hpn : pp = some ⟨p.pid, 0, none⟩ := by rw [← HPP.out, hpk]; rfl
      subst hpn
      have HPK := Lib.hid hpk
      obtain ⟨hb, hhb⟩ : ∃ q, hasB hold p.holders = q := ⟨_, rfl⟩
      have HHB := Lib.hid hhb
      have HF2 : Hid (fitsS S ⟨7, who, nm, ver, nd, sm, n, sz, hold, note⟩ = hb) := Lib.hid (by
        rw [HFS.out]; show holdS S nm hold = _
        unfold holdS
        rw [hpk]; exact hhb)
      clear hpk hhb
      go_enter Tryz.func37, Tryz.ntmps37
      go_wp2
      go_quiet (fail)
      go_wp2
      go_quiet (fail)
      go_wp2_with (go_at_call 24; refine (HR.out _ (h0.drew _)).mono ?_)
      rintro e w1 ⟨nv1, rfl, hk2, hb2⟩
      obtain ⟨⟨A1, cc1, hA1, _⟩, _⟩ := hk2
      subst hA1
      have hb3 := bseq (bseq hb1 (below_drewN'' _ _)) hb2
      have h1 := (h0.drew _).next hb2
      have E1 := (hb2.block w.heap.size (by simp)).trans (heap_alloc_new w _)
      have hsz1 := hb3.size
      have hb4 : Below w1.heap.size w1 (w1.alloc (.cells (relCells ⟨rver, rby, rat, .slice A1 rnd.length cc1, rnd, rsum, rn, rsz, ryk, rnote⟩) 64)) := (Below.refl _ _).alloc (Nat.le_refl _) _
      have h4 := h1.next hb4
      obtain ⟨s0, s1, s2, s3, s4⟩ := h4.cells
      obtain ⟨e0, e1, e2, e3, e4, e5, e6, e7, e8, e9⟩ := evcells ((hb4.block w.heap.size (Array.getElem?_eq_some_iff.1 E1).1).trans E1)
      have lT := fun m => LT.out _ (h4.drew m)
      have HB := Lib.hid (bseq hb3 hb4)
      have HH4 := Lib.hid h4
      clear E1 hb2 hb3 h1 hb4 h4
      go_wp2
      go_quiet (fail)
      have hpk4 := fun m => (HH4.out.drew m).pkAt HPK.out
      obtain ⟨d0, d1, d2⟩ := (HH4.out.pkAt HPK.out).cells
      have lB := fun m => lkB (hpk4 m).ho hold
      rw [HHB.out] at lB
      clear hpk4
      go_wp2
      go_quiet (fail)
      go_wp2
      go_ret
      first | exact ⟨ret_bool HF2.out.symm, bseq HB.out (below_drewN'' _ _)⟩ | exact ⟨ret_bool HF2.out.symm, bseq HB.out (bseq (below_drewN'' _ _) (below_drewN'' _ _))⟩
end Go.Proofs.YtggdgjifhikmiaaGreatDoor
set_option linter.unusedVariables false
namespace Go.Proofs.YtggdgjifhikmiaaGreatDoor
open Go.RowKit Yk
set_option maxHeartbeats 4000000 in
set_option maxRecDepth 100000 in
theorem fits_9 (who nm ver hold note : ByteArray) (nd : List (ByteArray × ByteArray)) (sm n sz : Int) (nv : Value) (S : St) (w : World)
    (hnm : nm.size ≤ 140737488355328) (h : StAt w S) (hn : NeedsAt w nv nd) (hqa : (aget who S.accts).isSome = true) :
    Calls Tryz.prog 37 #[ptr S.sid, .agg (evCells ⟨9, who, nm, ver, nd, sm, n, sz, hold, note⟩ nv)] w fun e w' => e = .returned (.bool (fitsS S ⟨9, who, nm, ver, nd, sm, n, sz, hold, note⟩)) ∧ Below w.heap.size w w' := by
  unfold evCells
  obtain ⟨A, cp, rfl, _⟩ := hn
  have hb1 : Below w.heap.size w (w.alloc (.cells (evCells ⟨9, who, nm, ver, nd, sm, n, sz, hold, note⟩ (.slice A nd.length cp)) 36)) := (Below.refl _ _).alloc (Nat.le_refl _) _
  have h0 := h.next hb1
  obtain ⟨c0, c1, c2, c3, c4⟩ := h0.cells
  have lA := fun m => lkA (h0.drew m) who
  obtain ⟨xa, hxa⟩ : ∃ q, (aget who S.accts).getD 0 = q := ⟨_, rfl⟩
  rw [hqa, hxa] at lA
  have HQA := Lib.hid hqa
  clear hxa hqa
  have lK := fun m => lkK (h0.drew m) nm
  obtain ⟨pp, hpp⟩ : ∃ q, (aget nm S.packs).map (fun p => (⟨p.pid, 0, none⟩ : Addr)) = q := ⟨_, rfl⟩
  rw [hpp] at lK
  have HPP := Lib.hid hpp
  obtain ⟨⟨rver, rby, rat, rnv, rnd, rsum, rn, rsz, ryk, rnote⟩, hrel⟩ : ∃ q, relOf S nm ver = q := ⟨_, rfl⟩
  obtain ⟨ri, hri⟩ : ∃ q, relIs S nm ver = q := ⟨_, rfl⟩
  have HREL := Lib.hid hrel; have HRI := Lib.hid hri
  have HR : Hid (∀ W, StAt W S → Calls Tryz.prog 24 #[ptr S.sid, .string nm, .string ver] W fun e w' => ∃ nv, e = .returned (.tuple #[.agg (relCells ⟨rver, rby, rat, nv, rnd, rsum, rn, rsz, ryk, rnote⟩), .bool ri]) ∧ NeedsK w' nv rnd ∧ Below W.heap.size W w') := Lib.hid (fun W hW => by
    have := release_any S nm ver W hW
    rw [hrel, hri] at this
    exact this)
  obtain ⟨tt, htt⟩ : ∃ q, (aget hold S.teams).map Tm.tid = q := ⟨_, rfl⟩
  obtain ⟨ti, hti⟩ : ∃ q, (aget hold S.teams).isSome = q := ⟨_, rfl⟩
  have HTT := Lib.hid htt; have HTI := Lib.hid hti
  have LT : Hid (∀ W, StAt W S → (Instr.lookup 76 (.map (some S.tid)) (.string hold) true).run Tryz.prog W = .ok (.tuple #[.map tt, .bool ti]) W) := Lib.hid (fun W hW => by
    have := lkT hW hold
    rwa [htt, hti] at this)
  have HFS : Hid (fitsS S ⟨9, who, nm, ver, nd, sm, n, sz, hold, note⟩ = (if (9 : Int) = 2 then !ri && likeOk S nm else if (9 : Int) = 3 then ri && !ryk else if (9 : Int) = 4 then ri && ryk else if (9 : Int) = 5 then ri && !decide (rnote = note) else if (9 : Int) = 6 then (aget nm S.packs).isSome && (someS S hold && !holdS S nm hold) else if (9 : Int) = 7 then holdS S nm hold else if (9 : Int) = 8 then !someS S hold else if (9 : Int) = 9 then ti && ((aget note S.accts).isSome && !memS S hold note) else memS S hold note)) := Lib.hid (by
    unfold fitsS
    rw [if_neg (by show ¬ ((9 : Int) = 1); decide), if_neg (by show ¬ (!(aget who S.accts).isSome) = true; rw [HQA.out]; decide), hri, hrel, hti])
  have HW0 := Lib.hid h0
  clear hpp hrel hri htt hti h
  · cases htk : aget hold S.teams with
    | none =>
      have htn : tt = none := by rw [← HTT.out, htk]; rfl
      subst htn
      have htf : ti = false := by rw [← HTI.out, htk]; rfl
      subst htf
      obtain ⟨na, hna⟩ : ∃ q, (aget note S.accts).isSome = q := ⟨_, rfl⟩
      obtain ⟨xn, hxn⟩ : ∃ q, (aget note S.accts).getD 0 = q := ⟨_, rfl⟩
      have LN : Hid (∀ W, StAt W S → (Instr.lookup 75 (.map (some S.aid)) (.string note) true).run Tryz.prog W = .ok (.tuple #[.int .u64 xn, .bool na]) W) := Lib.hid (fun W hW => by
        have := lkA hW note
        rwa [hna, hxn] at this)
      have HF2 : Hid (fitsS S ⟨9, who, nm, ver, nd, sm, n, sz, hold, note⟩ = false) := Lib.hid (by rw [HFS.out]; rfl)
      clear htk hna hxn
      go_enter Tryz.func37, Tryz.ntmps37
      go_wp2
      go_quiet (fail)
      go_wp2
      go_quiet (fail)
      go_wp2_with (go_at_call 24; refine (HR.out _ (h0.drew _)).mono ?_)
      rintro e w1 ⟨nv1, rfl, hk2, hb2⟩
      obtain ⟨⟨A1, cc1, hA1, _⟩, _⟩ := hk2
      subst hA1
      have hb3 := bseq (bseq hb1 (below_drewN'' _ _)) hb2
      have h1 := (h0.drew _).next hb2
      have E1 := (hb2.block w.heap.size (by simp)).trans (heap_alloc_new w _)
      have hsz1 := hb3.size
      have hb4 : Below w1.heap.size w1 (w1.alloc (.cells (relCells ⟨rver, rby, rat, .slice A1 rnd.length cc1, rnd, rsum, rn, rsz, ryk, rnote⟩) 64)) := (Below.refl _ _).alloc (Nat.le_refl _) _
      have h4 := h1.next hb4
      obtain ⟨s0, s1, s2, s3, s4⟩ := h4.cells
      obtain ⟨e0, e1, e2, e3, e4, e5, e6, e7, e8, e9⟩ := evcells ((hb4.block w.heap.size (Array.getElem?_eq_some_iff.1 E1).1).trans E1)
      have lT := fun m => LT.out _ (h4.drew m)
      have HB := Lib.hid (bseq hb3 hb4)
      have HH4 := Lib.hid h4
      clear E1 hb2 hb3 h1 hb4 h4
      go_wp2
      go_quiet (fail)
      have lN := fun m => LN.out _ (HH4.out.drew m)
      go_wp2
      go_quiet (fail)
      go_wp2
      go_ret
      first | exact ⟨ret_bool HF2.out.symm, bseq HB.out (below_drewN'' _ _)⟩ | exact ⟨ret_bool HF2.out.symm, bseq HB.out (bseq (below_drewN'' _ _) (below_drewN'' _ _))⟩
    | some tm =>
      have htn : tt = some tm.tid := by rw [← HTT.out, htk]; rfl
      subst htn
      have htf : ti = true := by rw [← HTI.out, htk]; rfl
      subst htf
      have HTK := Lib.hid htk
      obtain ⟨na, hna⟩ : ∃ q, (aget note S.accts).isSome = q := ⟨_, rfl⟩
      obtain ⟨xn, hxn⟩ : ∃ q, (aget note S.accts).getD 0 = q := ⟨_, rfl⟩
      have LN : Hid (∀ W, StAt W S → (Instr.lookup 75 (.map (some S.aid)) (.string note) true).run Tryz.prog W = .ok (.tuple #[.int .u64 xn, .bool na]) W) := Lib.hid (fun W hW => by
        have := lkA hW note
        rwa [hna, hxn] at this)
      obtain ⟨mb, hmb⟩ : ∃ q, hasB note tm.members = q := ⟨_, rfl⟩
      have HMB := Lib.hid hmb
      have HF2 : Hid (fitsS S ⟨9, who, nm, ver, nd, sm, n, sz, hold, note⟩ = (na && !mb)) := Lib.hid (by
        rw [HFS.out]; show (true && ((aget note S.accts).isSome && !memS S hold note)) = _
        have hh : memS S hold note = mb := by unfold memS; rw [htk]; exact hmb
        rw [hh, hna]; rfl)
      clear htk hna hxn hmb
      cases na
      · skip
        go_enter Tryz.func37, Tryz.ntmps37
        go_wp2
        go_quiet (fail)
        go_wp2
        go_quiet (fail)
        go_wp2_with (go_at_call 24; refine (HR.out _ (h0.drew _)).mono ?_)
        rintro e w1 ⟨nv1, rfl, hk2, hb2⟩
        obtain ⟨⟨A1, cc1, hA1, _⟩, _⟩ := hk2
        subst hA1
        have hb3 := bseq (bseq hb1 (below_drewN'' _ _)) hb2
        have h1 := (h0.drew _).next hb2
        have E1 := (hb2.block w.heap.size (by simp)).trans (heap_alloc_new w _)
        have hsz1 := hb3.size
        have hb4 : Below w1.heap.size w1 (w1.alloc (.cells (relCells ⟨rver, rby, rat, .slice A1 rnd.length cc1, rnd, rsum, rn, rsz, ryk, rnote⟩) 64)) := (Below.refl _ _).alloc (Nat.le_refl _) _
        have h4 := h1.next hb4
        obtain ⟨s0, s1, s2, s3, s4⟩ := h4.cells
        obtain ⟨e0, e1, e2, e3, e4, e5, e6, e7, e8, e9⟩ := evcells ((hb4.block w.heap.size (Array.getElem?_eq_some_iff.1 E1).1).trans E1)
        have lT := fun m => LT.out _ (h4.drew m)
        have HB := Lib.hid (bseq hb3 hb4)
        have HH4 := Lib.hid h4
        clear E1 hb2 hb3 h1 hb4 h4
        go_wp2
        go_quiet (fail)
        have lN := fun m => LN.out _ (HH4.out.drew m)
        have lM := fun m => lkB ((HH4.out.drew m).tmAt HTK.out) note
        rw [HMB.out] at lM
        go_wp2
        go_quiet (fail)
        go_wp2
        go_ret
        first | exact ⟨ret_bool HF2.out.symm, bseq HB.out (below_drewN'' _ _)⟩ | exact ⟨ret_bool HF2.out.symm, bseq HB.out (bseq (below_drewN'' _ _) (below_drewN'' _ _))⟩
      · skip
        go_enter Tryz.func37, Tryz.ntmps37
        go_wp2
        go_quiet (fail)
        go_wp2
        go_quiet (fail)
        go_wp2_with (go_at_call 24; refine (HR.out _ (h0.drew _)).mono ?_)
        rintro e w1 ⟨nv1, rfl, hk2, hb2⟩
        obtain ⟨⟨A1, cc1, hA1, _⟩, _⟩ := hk2
        subst hA1
        have hb3 := bseq (bseq hb1 (below_drewN'' _ _)) hb2
        have h1 := (h0.drew _).next hb2
        have E1 := (hb2.block w.heap.size (by simp)).trans (heap_alloc_new w _)
        have hsz1 := hb3.size
        have hb4 : Below w1.heap.size w1 (w1.alloc (.cells (relCells ⟨rver, rby, rat, .slice A1 rnd.length cc1, rnd, rsum, rn, rsz, ryk, rnote⟩) 64)) := (Below.refl _ _).alloc (Nat.le_refl _) _
        have h4 := h1.next hb4
        obtain ⟨s0, s1, s2, s3, s4⟩ := h4.cells
        obtain ⟨e0, e1, e2, e3, e4, e5, e6, e7, e8, e9⟩ := evcells ((hb4.block w.heap.size (Array.getElem?_eq_some_iff.1 E1).1).trans E1)
        have lT := fun m => LT.out _ (h4.drew m)
        have HB := Lib.hid (bseq hb3 hb4)
        have HH4 := Lib.hid h4
        clear E1 hb2 hb3 h1 hb4 h4
        go_wp2
        go_quiet (fail)
        have lN := fun m => LN.out _ (HH4.out.drew m)
        have lM := fun m => lkB ((HH4.out.drew m).tmAt HTK.out) note
        rw [HMB.out] at lM
        go_wp2
        go_quiet (fail)
        go_wp2
        go_ret
        first | exact ⟨ret_bool HF2.out.symm, bseq HB.out (below_drewN'' _ _)⟩ | exact ⟨ret_bool HF2.out.symm, bseq HB.out (bseq (below_drewN'' _ _) (below_drewN'' _ _))⟩
end Go.Proofs.YtggdgjifhikmiaaGreatDoor
set_option linter.unusedVariables false
namespace Go.Proofs.YtggdgjifhikmiaaGreatDoor
open Go.RowKit Yk
set_option maxHeartbeats 4000000 in
set_option maxRecDepth 100000 in
theorem fits_10 (who nm ver hold note : ByteArray) (nd : List (ByteArray × ByteArray)) (sm n sz : Int) (nv : Value) (S : St) (w : World)
    (hnm : nm.size ≤ 140737488355328) (h : StAt w S) (hn : NeedsAt w nv nd) (hqa : (aget who S.accts).isSome = true) :
    Calls Tryz.prog 37 #[ptr S.sid, .agg (evCells ⟨10, who, nm, ver, nd, sm, n, sz, hold, note⟩ nv)] w fun e w' => e = .returned (.bool (fitsS S ⟨10, who, nm, ver, nd, sm, n, sz, hold, note⟩)) ∧ Below w.heap.size w w' := by
  unfold evCells
  obtain ⟨A, cp, rfl, _⟩ := hn
  have hb1 : Below w.heap.size w (w.alloc (.cells (evCells ⟨10, who, nm, ver, nd, sm, n, sz, hold, note⟩ (.slice A nd.length cp)) 36)) := (Below.refl _ _).alloc (Nat.le_refl _) _
  have h0 := h.next hb1
  obtain ⟨c0, c1, c2, c3, c4⟩ := h0.cells
  have lA := fun m => lkA (h0.drew m) who
  obtain ⟨xa, hxa⟩ : ∃ q, (aget who S.accts).getD 0 = q := ⟨_, rfl⟩
  rw [hqa, hxa] at lA
  have HQA := Lib.hid hqa
  clear hxa hqa
  have lK := fun m => lkK (h0.drew m) nm
  obtain ⟨pp, hpp⟩ : ∃ q, (aget nm S.packs).map (fun p => (⟨p.pid, 0, none⟩ : Addr)) = q := ⟨_, rfl⟩
  rw [hpp] at lK
  have HPP := Lib.hid hpp
  obtain ⟨⟨rver, rby, rat, rnv, rnd, rsum, rn, rsz, ryk, rnote⟩, hrel⟩ : ∃ q, relOf S nm ver = q := ⟨_, rfl⟩
  obtain ⟨ri, hri⟩ : ∃ q, relIs S nm ver = q := ⟨_, rfl⟩
  have HREL := Lib.hid hrel; have HRI := Lib.hid hri
  have HR : Hid (∀ W, StAt W S → Calls Tryz.prog 24 #[ptr S.sid, .string nm, .string ver] W fun e w' => ∃ nv, e = .returned (.tuple #[.agg (relCells ⟨rver, rby, rat, nv, rnd, rsum, rn, rsz, ryk, rnote⟩), .bool ri]) ∧ NeedsK w' nv rnd ∧ Below W.heap.size W w') := Lib.hid (fun W hW => by
    have := release_any S nm ver W hW
    rw [hrel, hri] at this
    exact this)
  obtain ⟨tt, htt⟩ : ∃ q, (aget hold S.teams).map Tm.tid = q := ⟨_, rfl⟩
  obtain ⟨ti, hti⟩ : ∃ q, (aget hold S.teams).isSome = q := ⟨_, rfl⟩
  have HTT := Lib.hid htt; have HTI := Lib.hid hti
  have LT : Hid (∀ W, StAt W S → (Instr.lookup 76 (.map (some S.tid)) (.string hold) true).run Tryz.prog W = .ok (.tuple #[.map tt, .bool ti]) W) := Lib.hid (fun W hW => by
    have := lkT hW hold
    rwa [htt, hti] at this)
  have HFS : Hid (fitsS S ⟨10, who, nm, ver, nd, sm, n, sz, hold, note⟩ = (if (10 : Int) = 2 then !ri && likeOk S nm else if (10 : Int) = 3 then ri && !ryk else if (10 : Int) = 4 then ri && ryk else if (10 : Int) = 5 then ri && !decide (rnote = note) else if (10 : Int) = 6 then (aget nm S.packs).isSome && (someS S hold && !holdS S nm hold) else if (10 : Int) = 7 then holdS S nm hold else if (10 : Int) = 8 then !someS S hold else if (10 : Int) = 9 then ti && ((aget note S.accts).isSome && !memS S hold note) else memS S hold note)) := Lib.hid (by
    unfold fitsS
    rw [if_neg (by show ¬ ((10 : Int) = 1); decide), if_neg (by show ¬ (!(aget who S.accts).isSome) = true; rw [HQA.out]; decide), hri, hrel, hti])
  have HW0 := Lib.hid h0
  clear hpp hrel hri htt hti h
  · cases htk : aget hold S.teams with
    | none =>
      have htn : tt = none := by rw [← HTT.out, htk]; rfl
      subst htn
      have htf : ti = false := by rw [← HTI.out, htk]; rfl
      subst htf
      have HF2 : Hid (fitsS S ⟨10, who, nm, ver, nd, sm, n, sz, hold, note⟩ = false) := Lib.hid (by rw [HFS.out]; show memS S hold note = false; unfold memS; rw [htk])
      clear htk
      go_enter Tryz.func37, Tryz.ntmps37
      go_wp2
      go_quiet (fail)
      go_wp2
      go_quiet (fail)
      go_wp2_with (go_at_call 24; refine (HR.out _ (h0.drew _)).mono ?_)
      rintro e w1 ⟨nv1, rfl, hk2, hb2⟩
      obtain ⟨⟨A1, cc1, hA1, _⟩, _⟩ := hk2
      subst hA1
      have hb3 := bseq (bseq hb1 (below_drewN'' _ _)) hb2
      have h1 := (h0.drew _).next hb2
      have E1 := (hb2.block w.heap.size (by simp)).trans (heap_alloc_new w _)
      have hsz1 := hb3.size
      have hb4 : Below w1.heap.size w1 (w1.alloc (.cells (relCells ⟨rver, rby, rat, .slice A1 rnd.length cc1, rnd, rsum, rn, rsz, ryk, rnote⟩) 64)) := (Below.refl _ _).alloc (Nat.le_refl _) _
      have h4 := h1.next hb4
      obtain ⟨s0, s1, s2, s3, s4⟩ := h4.cells
      obtain ⟨e0, e1, e2, e3, e4, e5, e6, e7, e8, e9⟩ := evcells ((hb4.block w.heap.size (Array.getElem?_eq_some_iff.1 E1).1).trans E1)
      have lT := fun m => LT.out _ (h4.drew m)
      have HB := Lib.hid (bseq hb3 hb4)
      have HH4 := Lib.hid h4
      clear E1 hb2 hb3 h1 hb4 h4
      go_wp2
      go_quiet (fail)
      go_wp2
      go_ret
      first | exact ⟨ret_bool HF2.out.symm, bseq HB.out (below_drewN'' _ _)⟩ | exact ⟨ret_bool HF2.out.symm, bseq HB.out (bseq (below_drewN'' _ _) (below_drewN'' _ _))⟩
    | some tm =>
      have htn : tt = some tm.tid := by rw [← HTT.out, htk]; rfl
      subst htn
      have htf : ti = true := by rw [← HTI.out, htk]; rfl
      subst htf
      have HTK := Lib.hid htk
      obtain ⟨mb, hmb⟩ : ∃ q, hasB note tm.members = q := ⟨_, rfl⟩
      have HMB := Lib.hid hmb
      have HF2 : Hid (fitsS S ⟨10, who, nm, ver, nd, sm, n, sz, hold, note⟩ = mb) := Lib.hid (by
        rw [HFS.out]; show memS S hold note = _
        unfold memS
        rw [htk]; exact hmb)
      clear htk hmb
      go_enter Tryz.func37, Tryz.ntmps37
      go_wp2
      go_quiet (fail)
      go_wp2
      go_quiet (fail)
      go_wp2_with (go_at_call 24; refine (HR.out _ (h0.drew _)).mono ?_)
      rintro e w1 ⟨nv1, rfl, hk2, hb2⟩
      obtain ⟨⟨A1, cc1, hA1, _⟩, _⟩ := hk2
      subst hA1
      have hb3 := bseq (bseq hb1 (below_drewN'' _ _)) hb2
      have h1 := (h0.drew _).next hb2
      have E1 := (hb2.block w.heap.size (by simp)).trans (heap_alloc_new w _)
      have hsz1 := hb3.size
      have hb4 : Below w1.heap.size w1 (w1.alloc (.cells (relCells ⟨rver, rby, rat, .slice A1 rnd.length cc1, rnd, rsum, rn, rsz, ryk, rnote⟩) 64)) := (Below.refl _ _).alloc (Nat.le_refl _) _
      have h4 := h1.next hb4
      obtain ⟨s0, s1, s2, s3, s4⟩ := h4.cells
      obtain ⟨e0, e1, e2, e3, e4, e5, e6, e7, e8, e9⟩ := evcells ((hb4.block w.heap.size (Array.getElem?_eq_some_iff.1 E1).1).trans E1)
      have lT := fun m => LT.out _ (h4.drew m)
      have HB := Lib.hid (bseq hb3 hb4)
      have HH4 := Lib.hid h4
      clear E1 hb2 hb3 h1 hb4 h4
      go_wp2
      go_quiet (fail)
      have lM := fun m => lkB ((HH4.out.drew m).tmAt HTK.out) note
      rw [HMB.out] at lM
      go_wp2
      go_ret
      first | exact ⟨ret_bool HF2.out.symm, bseq HB.out (below_drewN'' _ _)⟩ | exact ⟨ret_bool HF2.out.symm, bseq HB.out (bseq (below_drewN'' _ _) (below_drewN'' _ _))⟩
end Go.Proofs.YtggdgjifhikmiaaGreatDoor
set_option linter.unusedVariables false
namespace Go.Proofs.YtggdgjifhikmiaaGreatDoor
open Go.RowKit Yk
set_option maxHeartbeats 4000000 in
set_option maxRecDepth 100000 in
theorem fits_2 (who nm ver hold note : ByteArray) (nd : List (ByteArray × ByteArray)) (sm n sz : Int) (nv : Value) (S : St) (w : World)
    (hnm : nm.size ≤ 140737488355328) (h : StAt w S) (hn : NeedsAt w nv nd) (hqa : (aget who S.accts).isSome = true) :
    Calls Tryz.prog 37 #[ptr S.sid, .agg (evCells ⟨2, who, nm, ver, nd, sm, n, sz, hold, note⟩ nv)] w fun e w' => e = .returned (.bool (fitsS S ⟨2, who, nm, ver, nd, sm, n, sz, hold, note⟩)) ∧ Below w.heap.size w w' := by
  unfold evCells
  obtain ⟨A, cp, rfl, _⟩ := hn
  have hb1 : Below w.heap.size w (w.alloc (.cells (evCells ⟨2, who, nm, ver, nd, sm, n, sz, hold, note⟩ (.slice A nd.length cp)) 36)) := (Below.refl _ _).alloc (Nat.le_refl _) _
  have h0 := h.next hb1
  obtain ⟨c0, c1, c2, c3, c4⟩ := h0.cells
  have lA := fun m => lkA (h0.drew m) who
  obtain ⟨xa, hxa⟩ : ∃ q, (aget who S.accts).getD 0 = q := ⟨_, rfl⟩
  rw [hqa, hxa] at lA
  have HQA := Lib.hid hqa
  clear hxa hqa
  have lK := fun m => lkK (h0.drew m) nm
  obtain ⟨pp, hpp⟩ : ∃ q, (aget nm S.packs).map (fun p => (⟨p.pid, 0, none⟩ : Addr)) = q := ⟨_, rfl⟩
  rw [hpp] at lK
  have HPP := Lib.hid hpp
  obtain ⟨⟨rver, rby, rat, rnv, rnd, rsum, rn, rsz, ryk, rnote⟩, hrel⟩ : ∃ q, relOf S nm ver = q := ⟨_, rfl⟩
  obtain ⟨ri, hri⟩ : ∃ q, relIs S nm ver = q := ⟨_, rfl⟩
  have HREL := Lib.hid hrel; have HRI := Lib.hid hri
  have HR : Hid (∀ W, StAt W S → Calls Tryz.prog 24 #[ptr S.sid, .string nm, .string ver] W fun e w' => ∃ nv, e = .returned (.tuple #[.agg (relCells ⟨rver, rby, rat, nv, rnd, rsum, rn, rsz, ryk, rnote⟩), .bool ri]) ∧ NeedsK w' nv rnd ∧ Below W.heap.size W w') := Lib.hid (fun W hW => by
    have := release_any S nm ver W hW
    rw [hrel, hri] at this
    exact this)
  obtain ⟨tt, htt⟩ : ∃ q, (aget hold S.teams).map Tm.tid = q := ⟨_, rfl⟩
  obtain ⟨ti, hti⟩ : ∃ q, (aget hold S.teams).isSome = q := ⟨_, rfl⟩
  have HTT := Lib.hid htt; have HTI := Lib.hid hti
  have LT : Hid (∀ W, StAt W S → (Instr.lookup 76 (.map (some S.tid)) (.string hold) true).run Tryz.prog W = .ok (.tuple #[.map tt, .bool ti]) W) := Lib.hid (fun W hW => by
    have := lkT hW hold
    rwa [htt, hti] at this)
  have HFS : Hid (fitsS S ⟨2, who, nm, ver, nd, sm, n, sz, hold, note⟩ = (if (2 : Int) = 2 then !ri && likeOk S nm else if (2 : Int) = 3 then ri && !ryk else if (2 : Int) = 4 then ri && ryk else if (2 : Int) = 5 then ri && !decide (rnote = note) else if (2 : Int) = 6 then (aget nm S.packs).isSome && (someS S hold && !holdS S nm hold) else if (2 : Int) = 7 then holdS S nm hold else if (2 : Int) = 8 then !someS S hold else if (2 : Int) = 9 then ti && ((aget note S.accts).isSome && !memS S hold note) else memS S hold note)) := Lib.hid (by
    unfold fitsS
    rw [if_neg (by show ¬ ((2 : Int) = 1); decide), if_neg (by show ¬ (!(aget who S.accts).isSome) = true; rw [HQA.out]; decide), hri, hrel, hti])
  have HW0 := Lib.hid h0
  clear hpp hrel hri htt hti h
  · skip
    obtain ⟨qb, hqb⟩ : ∃ q, mk ((squash (bs nm)).getD []) = q := ⟨_, rfl⟩
    have HSQ : Hid (∀ W, Calls Tryz.prog 58 #[.string nm] W fun e w' => e = .returned (.string qb) ∧ Below W.heap.size W w') := Lib.hid (fun W => by
      have := fsquash_any nm W (by omega)
      rwa [hqb] at this)
    obtain ⟨bo, hbo⟩ : ∃ q, (aget qb S.squashes).isSome = q := ⟨_, rfl⟩
    obtain ⟨xo, hxo⟩ : ∃ q, (aget qb S.squashes).getD eB = q := ⟨_, rfl⟩
    have HL : Hid (likeOk S nm = (!bo || (xo.toList == nm.toList))) := Lib.hid (by
      unfold likeOk
      rw [hqb]
      subst hbo; subst hxo
      cases aget qb S.squashes with
      | none => rfl
      | some o =>
        show decide (o = nm) = (false || (o.toList == nm.toList))
        rw [Bool.false_or, Bool.eq_iff_iff, decide_eq_true_iff, beq_iff_eq]
        exact ⟨fun e => by rw [e], bytes_eq⟩)
    have HF2 : Hid (fitsS S ⟨2, who, nm, ver, nd, sm, n, sz, hold, note⟩ = (!ri && (!bo || (xo.toList == nm.toList)))) := Lib.hid (by
      rw [HFS.out]; show (!ri && likeOk S nm) = _
      rw [HL.out])
    have HBO := Lib.hid hbo; have HXO := Lib.hid hxo
    clear hqb hbo hxo
    cases ri <;> cases bo
    · skip
      go_enter Tryz.func37, Tryz.ntmps37
      go_wp2
      go_quiet (fail)
      go_wp2
      go_quiet (fail)
      go_wp2_with (go_at_call 24; refine (HR.out _ (h0.drew _)).mono ?_)
      rintro e w1 ⟨nv1, rfl, hk2, hb2⟩
      obtain ⟨⟨A1, cc1, hA1, _⟩, _⟩ := hk2
      subst hA1
      have hb3 := bseq (bseq hb1 (below_drewN'' _ _)) hb2
      have h1 := (h0.drew _).next hb2
      have E1 := (hb2.block w.heap.size (by simp)).trans (heap_alloc_new w _)
      have hsz1 := hb3.size
      have hb4 : Below w1.heap.size w1 (w1.alloc (.cells (relCells ⟨rver, rby, rat, .slice A1 rnd.length cc1, rnd, rsum, rn, rsz, ryk, rnote⟩) 64)) := (Below.refl _ _).alloc (Nat.le_refl _) _
      have h4 := h1.next hb4
      obtain ⟨s0, s1, s2, s3, s4⟩ := h4.cells
      obtain ⟨e0, e1, e2, e3, e4, e5, e6, e7, e8, e9⟩ := evcells ((hb4.block w.heap.size (Array.getElem?_eq_some_iff.1 E1).1).trans E1)
      have lT := fun m => LT.out _ (h4.drew m)
      have HB := Lib.hid (bseq hb3 hb4)
      have HH4 := Lib.hid h4
      have E4 := Lib.hid ((hb4.block w.heap.size (Array.getElem?_eq_some_iff.1 E1).1).trans E1)
      clear E1 hb2 hb3 h1 hb4 h4
      go_wp2
      go_quiet (fail)
      go_wp2
      have HFM : Hid (FM S w.heap.size ⟨2, who, nm, ver, nd, sm, n, sz, hold, note⟩ (.slice A nd.length cp) qb _) := Lib.hid ⟨HH4.out, E4.out⟩
      go_region_held3 (fun x => x.cell? ⟨S.sid, 4, none⟩ = some (.map (some S.qid)) ∧ x.cell? ⟨w.heap.size, 2, none⟩ = some (.string nm) ∧ (Instr.lookup 78 (.map (some S.qid)) (.string qb) true).run Tryz.prog x = .ok (.tuple #[.string xo, .bool false]) x ∧ FM S w.heap.size ⟨2, who, nm, ver, nd, sm, n, sz, hold, note⟩ (.slice A nd.length cp) qb x)
        ((go_split_ands; first | exact hm6 | exact FM.all HBO.out HXO.out (by assumption) | exact FM.all HBO.out HXO.out (FM.drew' (by assumption)) | exact FM.all HBO.out HXO.out (HFM.out.drewN _) | exact FM.all HBO.out HXO.out ((HFM.out.drewN _).drew')))
        ((go_at_call 58; refine (HSQ.out _).mono ?_; rintro e w2 ⟨rfl, hb5⟩; have hm5 := FM.next hb5 (by first | assumption | exact ‹_ ∧ _ ∧ _ ∧ FM _ _ _ _ _ _›.2.2.2); have hm6 := FM.all HBO.out HXO.out hm5))
      obtain ⟨-, -, e2, -⟩ := evcells hm5.ev
      go_wp2
      go_ret
      exact ⟨ret_bool (by rw [HF2.out]; rfl), bseq (bseq HB.out ((below_drewN'' _ _).drew)) hb5⟩
    · skip
      go_enter Tryz.func37, Tryz.ntmps37
      go_wp2
      go_quiet (fail)
      go_wp2
      go_quiet (fail)
      go_wp2_with (go_at_call 24; refine (HR.out _ (h0.drew _)).mono ?_)
      rintro e w1 ⟨nv1, rfl, hk2, hb2⟩
      obtain ⟨⟨A1, cc1, hA1, _⟩, _⟩ := hk2
      subst hA1
      have hb3 := bseq (bseq hb1 (below_drewN'' _ _)) hb2
      have h1 := (h0.drew _).next hb2
      have E1 := (hb2.block w.heap.size (by simp)).trans (heap_alloc_new w _)
      have hsz1 := hb3.size
      have hb4 : Below w1.heap.size w1 (w1.alloc (.cells (relCells ⟨rver, rby, rat, .slice A1 rnd.length cc1, rnd, rsum, rn, rsz, ryk, rnote⟩) 64)) := (Below.refl _ _).alloc (Nat.le_refl _) _
      have h4 := h1.next hb4
      obtain ⟨s0, s1, s2, s3, s4⟩ := h4.cells
      obtain ⟨e0, e1, e2, e3, e4, e5, e6, e7, e8, e9⟩ := evcells ((hb4.block w.heap.size (Array.getElem?_eq_some_iff.1 E1).1).trans E1)
      have lT := fun m => LT.out _ (h4.drew m)
      have HB := Lib.hid (bseq hb3 hb4)
      have HH4 := Lib.hid h4
      have E4 := Lib.hid ((hb4.block w.heap.size (Array.getElem?_eq_some_iff.1 E1).1).trans E1)
      clear E1 hb2 hb3 h1 hb4 h4
      go_wp2
      go_quiet (fail)
      go_wp2
      have HFM : Hid (FM S w.heap.size ⟨2, who, nm, ver, nd, sm, n, sz, hold, note⟩ (.slice A nd.length cp) qb _) := Lib.hid ⟨HH4.out, E4.out⟩
      go_region_held3 (fun x => x.cell? ⟨S.sid, 4, none⟩ = some (.map (some S.qid)) ∧ x.cell? ⟨w.heap.size, 2, none⟩ = some (.string nm) ∧ (Instr.lookup 78 (.map (some S.qid)) (.string qb) true).run Tryz.prog x = .ok (.tuple #[.string xo, .bool true]) x ∧ FM S w.heap.size ⟨2, who, nm, ver, nd, sm, n, sz, hold, note⟩ (.slice A nd.length cp) qb x)
        ((go_split_ands; first | exact hm6 | exact FM.all HBO.out HXO.out (by assumption) | exact FM.all HBO.out HXO.out (FM.drew' (by assumption)) | exact FM.all HBO.out HXO.out (HFM.out.drewN _) | exact FM.all HBO.out HXO.out ((HFM.out.drewN _).drew')))
        ((go_at_call 58; refine (HSQ.out _).mono ?_; rintro e w2 ⟨rfl, hb5⟩; have hm5 := FM.next hb5 (by first | assumption | exact ‹_ ∧ _ ∧ _ ∧ FM _ _ _ _ _ _›.2.2.2); have hm6 := FM.all HBO.out HXO.out hm5))
      obtain ⟨-, -, e2, -⟩ := evcells hm5.ev
      go_wp2
      go_ret
      exact ⟨ret_bool (by rw [HF2.out]; rfl), bseq (bseq HB.out ((below_drewN'' _ _).drew)) hb5⟩
    · skip
      go_enter Tryz.func37, Tryz.ntmps37
      go_wp2
      go_quiet (fail)
      go_wp2
      go_quiet (fail)
      go_wp2_with (go_at_call 24; refine (HR.out _ (h0.drew _)).mono ?_)
      rintro e w1 ⟨nv1, rfl, hk2, hb2⟩
      obtain ⟨⟨A1, cc1, hA1, _⟩, _⟩ := hk2
      subst hA1
      have hb3 := bseq (bseq hb1 (below_drewN'' _ _)) hb2
      have h1 := (h0.drew _).next hb2
      have E1 := (hb2.block w.heap.size (by simp)).trans (heap_alloc_new w _)
      have hsz1 := hb3.size
      have hb4 : Below w1.heap.size w1 (w1.alloc (.cells (relCells ⟨rver, rby, rat, .slice A1 rnd.length cc1, rnd, rsum, rn, rsz, ryk, rnote⟩) 64)) := (Below.refl _ _).alloc (Nat.le_refl _) _
      have h4 := h1.next hb4
      obtain ⟨s0, s1, s2, s3, s4⟩ := h4.cells
      obtain ⟨e0, e1, e2, e3, e4, e5, e6, e7, e8, e9⟩ := evcells ((hb4.block w.heap.size (Array.getElem?_eq_some_iff.1 E1).1).trans E1)
      have lT := fun m => LT.out _ (h4.drew m)
      have HB := Lib.hid (bseq hb3 hb4)
      have HH4 := Lib.hid h4
      have E4 := Lib.hid ((hb4.block w.heap.size (Array.getElem?_eq_some_iff.1 E1).1).trans E1)
      clear E1 hb2 hb3 h1 hb4 h4
      go_wp2
      go_quiet (fail)
      go_wp2
      have HFM : Hid (FM S w.heap.size ⟨2, who, nm, ver, nd, sm, n, sz, hold, note⟩ (.slice A nd.length cp) qb _) := Lib.hid ⟨HH4.out, E4.out⟩
      go_region_held3 (fun x => x.cell? ⟨S.sid, 4, none⟩ = some (.map (some S.qid)) ∧ x.cell? ⟨w.heap.size, 2, none⟩ = some (.string nm) ∧ (Instr.lookup 78 (.map (some S.qid)) (.string qb) true).run Tryz.prog x = .ok (.tuple #[.string xo, .bool false]) x ∧ FM S w.heap.size ⟨2, who, nm, ver, nd, sm, n, sz, hold, note⟩ (.slice A nd.length cp) qb x)
        ((go_split_ands; first | exact hm6 | exact FM.all HBO.out HXO.out (by assumption) | exact FM.all HBO.out HXO.out (FM.drew' (by assumption)) | exact FM.all HBO.out HXO.out (HFM.out.drewN _) | exact FM.all HBO.out HXO.out ((HFM.out.drewN _).drew')))
        ((go_at_call 58; refine (HSQ.out _).mono ?_; rintro e w2 ⟨rfl, hb5⟩; have hm5 := FM.next hb5 (by first | assumption | exact ‹_ ∧ _ ∧ _ ∧ FM _ _ _ _ _ _›.2.2.2); have hm6 := FM.all HBO.out HXO.out hm5))
      obtain ⟨-, -, e2, -⟩ := evcells hm5.ev
      go_wp2
      go_ret
      exact ⟨ret_bool (by rw [HF2.out]; rfl), bseq (bseq HB.out ((below_drewN'' _ _).drew)) hb5⟩
    · skip
      go_enter Tryz.func37, Tryz.ntmps37
      go_wp2
      go_quiet (fail)
      go_wp2
      go_quiet (fail)
      go_wp2_with (go_at_call 24; refine (HR.out _ (h0.drew _)).mono ?_)
      rintro e w1 ⟨nv1, rfl, hk2, hb2⟩
      obtain ⟨⟨A1, cc1, hA1, _⟩, _⟩ := hk2
      subst hA1
      have hb3 := bseq (bseq hb1 (below_drewN'' _ _)) hb2
      have h1 := (h0.drew _).next hb2
      have E1 := (hb2.block w.heap.size (by simp)).trans (heap_alloc_new w _)
      have hsz1 := hb3.size
      have hb4 : Below w1.heap.size w1 (w1.alloc (.cells (relCells ⟨rver, rby, rat, .slice A1 rnd.length cc1, rnd, rsum, rn, rsz, ryk, rnote⟩) 64)) := (Below.refl _ _).alloc (Nat.le_refl _) _
      have h4 := h1.next hb4
      obtain ⟨s0, s1, s2, s3, s4⟩ := h4.cells
      obtain ⟨e0, e1, e2, e3, e4, e5, e6, e7, e8, e9⟩ := evcells ((hb4.block w.heap.size (Array.getElem?_eq_some_iff.1 E1).1).trans E1)
      have lT := fun m => LT.out _ (h4.drew m)
      have HB := Lib.hid (bseq hb3 hb4)
      have HH4 := Lib.hid h4
      have E4 := Lib.hid ((hb4.block w.heap.size (Array.getElem?_eq_some_iff.1 E1).1).trans E1)
      clear E1 hb2 hb3 h1 hb4 h4
      go_wp2
      go_quiet (fail)
      go_wp2
      have HFM : Hid (FM S w.heap.size ⟨2, who, nm, ver, nd, sm, n, sz, hold, note⟩ (.slice A nd.length cp) qb _) := Lib.hid ⟨HH4.out, E4.out⟩
      go_region_held3 (fun x => x.cell? ⟨S.sid, 4, none⟩ = some (.map (some S.qid)) ∧ x.cell? ⟨w.heap.size, 2, none⟩ = some (.string nm) ∧ (Instr.lookup 78 (.map (some S.qid)) (.string qb) true).run Tryz.prog x = .ok (.tuple #[.string xo, .bool true]) x ∧ FM S w.heap.size ⟨2, who, nm, ver, nd, sm, n, sz, hold, note⟩ (.slice A nd.length cp) qb x)
        ((go_split_ands; first | exact hm6 | exact FM.all HBO.out HXO.out (by assumption) | exact FM.all HBO.out HXO.out (FM.drew' (by assumption)) | exact FM.all HBO.out HXO.out (HFM.out.drewN _) | exact FM.all HBO.out HXO.out ((HFM.out.drewN _).drew')))
        ((go_at_call 58; refine (HSQ.out _).mono ?_; rintro e w2 ⟨rfl, hb5⟩; have hm5 := FM.next hb5 (by first | assumption | exact ‹_ ∧ _ ∧ _ ∧ FM _ _ _ _ _ _›.2.2.2); have hm6 := FM.all HBO.out HXO.out hm5))
      obtain ⟨-, -, e2, -⟩ := evcells hm5.ev
      go_wp2
      go_ret
      exact ⟨ret_bool (by rw [HF2.out]; rfl), bseq (bseq HB.out ((below_drewN'' _ _).drew)) hb5⟩
end Go.Proofs.YtggdgjifhikmiaaGreatDoor
