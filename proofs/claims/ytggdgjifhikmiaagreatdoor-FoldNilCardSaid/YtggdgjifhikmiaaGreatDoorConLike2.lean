/- Contract of fold.Like. Condition: the bound of the text. -/
import Derived.Test.YtggdgjifhikmiaaGreatDoorConStep
import Derived.Deep.RegionHeld3
set_option linter.unusedVariables false
namespace Go.Proofs.YtggdgjifhikmiaaGreatDoor
open Go.RowKit Yk
def likeO (X : PSt) (f : ByteArray) : Option ByteArray := match aget (sqOf f) X.squashes with
  | none => none
  | some o => if o = f then none else some o
/-- a package's name like a text's -/
def likeN (X : PSt) (n : ByteArray) : Option ByteArray := match norm (bs n) with
  | none => none
  | some l => likeO X (mk l)
def likeE (o : Option ByteArray) : Ending := .returned (.tuple #[.string (o.getD eB), .bool o.isSome])
theorem norm_len {s l : Bs} (h : norm s = some l) : l.length ≤ 128 := by
  unfold norm at h
  split at h
  · cases h; exact formOut_len [45] s (by simp)
  · cases h
abbrev LMs (S : St) (q xo : ByteArray) (bo : Bool) (x : World) : Prop := x.cell? ⟨S.sid, 4, none⟩ = some (.map (some S.qid)) ∧ (Instr.lookup 78 (.map (some S.qid)) (.string q) true).run Tryz.prog x = .ok (.tuple #[.string xo, .bool bo]) x ∧ StAt x S
theorem LMs.of {S : St} {q xo : ByteArray} {bo : Bool} {x : World} (h1 : (aget q S.squashes).isSome = bo) (h2 : (aget q S.squashes).getD eB = xo) (h : StAt x S) : LMs S q xo bo x := by
  subst h1; subst h2
  exact ⟨h.cells.2.2.2.2, lkQ h q, h⟩
theorem drew1 (w : World) : Below w.heap.size w w.drew := (Below.refl _ _).drew
set_option maxHeartbeats 4000000 in
theorem like_any (S : St) (n : ByteArray) (w : World) (h : StAt w S) (hs : n.size ≤ 9223372036854775807) :
    Calls Tryz.prog 25 #[ptr S.sid, .string n] w fun e w' => e = likeE (likeN S.data n) ∧ Below w.heap.size w w' := by
  have HC := Lib.hid (norm_any n w hs)
  have H := Lib.hid h
  obtain ⟨o, ho⟩ : ∃ o, norm n.data.toList = o := ⟨_, rfl⟩
  have HO := Lib.hid ho
  rw [ho] at HC
  clear h hs ho
  cases o with
  | none =>
    go_enter Tryz.func25, Tryz.ntmps25
    go_wp2_with (go_at_call 57; refine (HC.out).mono ?_)
    first | rintro e w1 rfl hb | rintro e w1 ⟨rfl, hb⟩
    unfold textErr
    go_wp2
    go_ret2
    have e1 : likeN S.data n = none := by unfold likeN; rw [show norm (bs n) = none from HO.out]
    exact ⟨by rw [e1]; rfl, hb⟩
  | some l =>
    obtain ⟨f, hf⟩ : ∃ f, f = mk l := ⟨_, rfl⟩
    have e1 : likeN S.data n = likeO S.data f := by rw [hf]; unfold likeN; rw [show norm (bs n) = some l from HO.out]
    have hfs : f.size ≤ 128 := by rw [hf, size_mk]; exact norm_len HO.out
    obtain ⟨q, hq⟩ : ∃ q, sqOf f = q := ⟨_, rfl⟩
    obtain ⟨bo, hbo⟩ : ∃ b, (aget q S.squashes).isSome = b := ⟨_, rfl⟩
    obtain ⟨xo, hxo⟩ : ∃ b, (aget q S.squashes).getD eB = b := ⟨_, rfl⟩
    have HSQ : Hid (∀ W, Calls Tryz.prog 58 #[.string f] W fun e w' => e = .returned (.string q) ∧ Below W.heap.size W w') := Lib.hid (fun W => by
      rw [← hq]; exact fsquash_any f W (by omega))
    have HL : Hid (likeE (likeN S.data n) = if bo && !(xo.toList == f.toList) then likeE (some xo) else likeE none) := Lib.hid (by
      rw [e1]; unfold likeO
      rw [hq]
      show likeE (match aget q S.squashes with | none => none | some o => if o = f then none else some o) = _
      have e3 : (xo.toList == f.toList) = decide (xo = f) := by
        by_cases hh : xo = f
        · simp [hh]
        · have : xo.toList ≠ f.toList := fun q => hh (by rw [ByteArray.toList_eq, ByteArray.toList_eq] at q; exact WideShapes.bytes_inj q)
          simp [hh, this]
      rw [e3]
      cases hg : aget q S.squashes with
      | none => rw [hg] at hbo; subst hbo; rfl
      | some o =>
        rw [hg] at hbo hxo; subst hbo
        have : o = xo := hxo
        subst this
        by_cases hh : o = f <;> simp [hh])
    have HBO := Lib.hid hbo; have HXO := Lib.hid hxo
    have HC2 : Hid (Calls Tryz.prog 57 #[.string n] w fun e w' => e = .returned (.tuple #[.string f, .int .i64 0]) ∧ Below w.heap.size w w') := Lib.hid (HC.out.mono (by
      rintro e w' ⟨rfl, hb⟩
      exact ⟨by rw [hf]; rfl, hb⟩))
    clear e1 hfs hq hbo hxo HC hf
    cases bo
    · skip
      go_enter Tryz.func25, Tryz.ntmps25
      go_wp2_with (go_at_call 57; refine (HC2.out).mono ?_)
      first | rintro e w1 rfl hb | rintro e w1 ⟨rfl, hb⟩
      have h1 := H.out.next hb
      obtain ⟨s0, s1, s2, s3, s4⟩ := h1.cells
      have HS1 := Lib.hid h1; have HB := Lib.hid hb
      clear h1 hb
      go_wp2
      go_region_held3 (fun x => x.cell? ⟨S.sid, 4, none⟩ = some (.map (some S.qid)) ∧ (Instr.lookup 78 (.map (some S.qid)) (.string q) true).run Tryz.prog x = .ok (.tuple #[.string xo, .bool false]) x ∧ StAt x S)
        ((go_split_ands; first | exact hm6 | exact LMs.of HBO.out HXO.out (by assumption) | exact LMs.of HBO.out HXO.out (StAt.next (by assumption) (drew1 _)) | exact LMs.of HBO.out HXO.out HS1.out | exact LMs.of HBO.out HXO.out (HS1.out.next (drew1 _))))
        ((go_at_call 58; refine (HSQ.out _).mono ?_; rintro e w2 ⟨rfl, hb5⟩; have hm6 := LMs.of HBO.out HXO.out ((HS1.out.next (drew1 _)).next hb5)))
      go_wp2
      go_ret2
      exact ⟨by rw [HL.out]; rfl, bseq HB.out (bseq (drew1 _) hb5)⟩
    · skip
      go_enter Tryz.func25, Tryz.ntmps25
      go_wp2_with (go_at_call 57; refine (HC2.out).mono ?_)
      first | rintro e w1 rfl hb | rintro e w1 ⟨rfl, hb⟩
      have h1 := H.out.next hb
      obtain ⟨s0, s1, s2, s3, s4⟩ := h1.cells
      have HS1 := Lib.hid h1; have HB := Lib.hid hb
      clear h1 hb
      go_wp2
      go_region_held3 (fun x => x.cell? ⟨S.sid, 4, none⟩ = some (.map (some S.qid)) ∧ (Instr.lookup 78 (.map (some S.qid)) (.string q) true).run Tryz.prog x = .ok (.tuple #[.string xo, .bool true]) x ∧ StAt x S)
        ((go_split_ands; first | exact hm6 | exact LMs.of HBO.out HXO.out (by assumption) | exact LMs.of HBO.out HXO.out (StAt.next (by assumption) (drew1 _)) | exact LMs.of HBO.out HXO.out HS1.out | exact LMs.of HBO.out HXO.out (HS1.out.next (drew1 _))))
        ((go_at_call 58; refine (HSQ.out _).mono ?_; rintro e w2 ⟨rfl, hb5⟩; have hm6 := LMs.of HBO.out HXO.out ((HS1.out.next (drew1 _)).next hb5)))
      by_cases hxf : (xo.toList == f.toList) = true
      · go_wp2
        go_ret2
        exact ⟨by rw [HL.out, hxf]; rfl, bseq HB.out (bseq (drew1 _) hb5)⟩
      · have hxf2 : (xo.toList == f.toList) = false := by simpa using hxf
        clear hxf
        go_wp2
        go_ret2
        exact ⟨by rw [HL.out, hxf2]; rfl, bseq HB.out (bseq (drew1 _) hb5)⟩
end Go.Proofs.YtggdgjifhikmiaaGreatDoor
