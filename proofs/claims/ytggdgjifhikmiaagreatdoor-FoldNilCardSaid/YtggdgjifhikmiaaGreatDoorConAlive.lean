/- Contract of yanklinelaw10.alive. No condition. -/
import Derived.Test.YtggdgjifhikmiaaGreatDoorConOf
import Derived.Test.YtggdgjifhikmiaaGreatDoorConLike2
set_option linter.unusedVariables false
namespace Go.Proofs.YtggdgjifhikmiaaGreatDoor
open Go.RowKit Yk
abbrev aliceS : ByteArray := ⟨#[97, 108, 105, 99, 101]⟩
abbrev fooS : ByteArray := ⟨#[102, 111, 111]⟩
abbrev oneS : ByteArray := ⟨#[49, 46, 48, 46, 48]⟩
abbrev fOOS : ByteArray := ⟨#[70, 46, 79, 79]⟩
abbrev evA : Ev := ⟨1, aliceS, eB, eB, [], 0, 0, 0, eB, eB⟩
abbrev evF : Ev := ⟨2, aliceS, fooS, oneS, [], 0, 1, 0, eB, eB⟩
theorem evB_A : EvB evA := by constructor <;> (try constructor) <;> simp [StrB, ByteArray.size]
theorem evB_F : EvB evF := by constructor <;> (try constructor) <;> simp [StrB, ByteArray.size]
def alX : PSt := ⟨2, [(aliceS, 0)], [], [(fooS, ⟨[aliceS], 2, [(oneS, pubRel 2 evF)]⟩)], [(fooS, fooS)]⟩
theorem al_of : ofP PSt.zero 0 [evA, evF] = .inl alX := by
  have h1 : codeP PSt.zero evA = 0 := by decide +kernel
  have e1 : makeP PSt.zero evA = ⟨1, [(aliceS, 0)], [], [], []⟩ := rfl
  have h2 : codeP ⟨1, [(aliceS, 0)], [], [], []⟩ evF = 0 := by decide +kernel
  have hq : sqOf fooS = fooS := by decide +kernel
  have e2 : makeP ⟨1, [(aliceS, 0)], [], [], []⟩ evF = alX := by
    show (⟨2, [(aliceS, 0)], [], [(fooS, ⟨[aliceS], 2, [(oneS, pubRel 2 evF)]⟩)], aput (sqOf fooS) fooS []⟩ : PSt) = alX
    rw [hq]; rfl
  simp only [ofP, h1, if_true, e1, h2, e2]
theorem al_bad : ofP PSt.zero 0 [evA, evA] = .inr (1, 100, 1) := by
  have h1 : codeP PSt.zero evA = 0 := by decide +kernel
  have e1 : makeP PSt.zero evA = ⟨1, [(aliceS, 0)], [], [], []⟩ := rfl
  have h2 : codeP ⟨1, [(aliceS, 0)], [], [], []⟩ evA = 100 := by decide +kernel
  simp only [ofP, h1, if_true, e1, h2]
  rfl
theorem al_like : likeN alX fOOS = some fooS := by decide +kernel
theorem stepA (S : St) (W : World) (hg : Glob W) (h : StAt W S) (hn : NeedsAt W (.slice none 0 0) []) (hh : 0 ≤ S.head ∧ S.head ≤ 4611686018427387904) :
    Calls Tryz.prog 10 #[ptr S.sid, .agg (evCells evA (.slice none 0 0))] W (ApplyPost S evA W) := by
  by_cases hc : codeP S.data evA = 0
  · exact apply1_step _ _ _ _ _ _ _ _ _ _ S W evB_A hg h hn hc hh
  · exact applyErr_step _ _ _ _ _ _ _ _ _ _ _ S W evB_A hg h hn (fun e => by cases e) hc
theorem needsB_nil : needsB [] = true := rfl
theorem stepF (S : St) (W : World) (hg : Glob W) (h : StAt W S) (hn : NeedsAt W (.slice none 0 0) []) (hh : 0 ≤ S.head ∧ S.head ≤ 4611686018427387904) :
    Calls Tryz.prog 10 #[ptr S.sid, .agg (evCells evF (.slice none 0 0))] W (ApplyPost S evF W) := by
  by_cases hc : codeP S.data evF = 0
  · exact apply2_step _ _ _ _ _ _ _ _ _ _ S W evB_F hg h hn hc hh needsCon_nil
  · exact applyErr_step _ _ _ _ _ _ _ _ _ _ _ S W evB_F hg h hn (fun _ => needsCon_nil) hc
theorem haAF : OfHA [(evA, .slice none 0 0), (evF, .slice none 0 0)] := by
  intro j h S W hg hs hn hh
  match j, h, hn with
  | 0, h, hn => exact stepA S W hg hs hn hh
  | 1, h, hn => exact stepF S W hg hs hn hh
theorem haAA : OfHA [(evA, .slice none 0 0), (evA, .slice none 0 0)] := by
  intro j h S W hg hs hn hh
  match j, h, hn with
  | 0, h, hn => exact stepA S W hg hs hn hh
  | 1, h, hn => exact stepA S W hg hs hn hh
theorem evsAt_two {w : World} {b : Nat} {e f : Ev} {T : TypeId} {fz : Nat × Nat} (h : w.heap[b]? = some (.cells (evCells e (.slice none 0 0) ++ evCells f (.slice none 0 0)) T fz)) (he : e.needs = []) (hf : f.needs = []) :
    EvsAt w (.slice (some ⟨b, 0, none⟩) 2 2) [(e, .slice none 0 0), (f, .slice none 0 0)] := by
  refine ⟨_, _, rfl, ⟨Nat.le_refl _, by simp⟩, fun x hx => ?_, fun _ => ⟨b, 0, rfl, (Array.getElem?_eq_some_iff.1 h).1, fun j hj i hi => ?_⟩⟩
  · simp only [List.mem_cons, List.not_mem_nil, or_false] at hx
    rcases hx with rfl | rfl
    · rw [show ((e, Value.slice none 0 0) : Ev × Value).1.needs = [] from he]; exact NeedsAt.nil w
    · rw [show ((f, Value.slice none 0 0) : Ev × Value).1.needs = [] from hf]; exact NeedsAt.nil w
  · rw [cells_of_block h]
    match j, hj with
    | 0, _ =>
      rw [show 0 + 0 * 10 + i = i by omega, Array.getElem?_append_left (show i < 10 from hi)]
      rfl
    | 1, _ =>
      rw [show 0 + 1 * 10 + i = i + 10 by omega, Array.getElem?_append_right (show 10 ≤ i + 10 by omega)]
      show (evCells f (.slice none 0 0))[i + 10 - 10]? = _
      rw [Nat.add_sub_cancel]
      rfl
abbrev twoO (e f : Ev) : Obj := .cells (evCells e (.slice none 0 0) ++ evCells f (.slice none 0 0)) 36
theorem ofAF (w : World) (hg : Glob w) : Calls Tryz.prog 18 #[.slice (some ⟨w.heap.size, 0, none⟩) 2 2] (w.alloc (.cells #[.int .u8 1, .string aliceS, .string eB, .string eB, .slice none 0 0, .int .u64 0, .int .u32 0, .int .u32 0, .string eB, .string eB, .int .u8 2, .string aliceS, .string fooS, .string oneS, .slice none 0 0, .int .u64 0, .int .u32 1, .int .u32 0, .string eB, .string eB] 36)) fun en w' =>
    Below w.heap.size w w' ∧ ∃ S, S.data = alX ∧ en = .returned (.tuple #[ptr S.sid, .int .i64 2, .nilIface]) ∧ StAt w' S := by
  have B : Below w.heap.size w (w.alloc (twoO evA evF)) := (Below.refl _ _).alloc (Nat.le_refl _) _
  refine (of_any [(evA, .slice none 0 0), (evF, .slice none 0 0)] _ _ (hg.next B) (evsAt_two (heap_alloc_new w _) rfl rfl) haAF).mono ?_
  rintro en w' ⟨hb, ⟨S, h1, h2, rfl, h4, h5⟩ | ⟨k, c, kd, v, h1, h2, _⟩⟩
  · refine ⟨bseq B hb, S, ?_, rfl, h4⟩
    have : ofP PSt.zero 0 [evA, evF] = .inl S.data := h1
    rw [al_of] at this
    exact (Sum.inl.inj this).symm
  · have : ofP PSt.zero 0 [evA, evF] = .inr (k, c, kd) := h2
    rw [al_of] at this
    cases this
theorem ofAA (w : World) (hg : Glob w) : Calls Tryz.prog 18 #[.slice (some ⟨w.heap.size, 0, none⟩) 2 2] (w.alloc (.cells #[.int .u8 1, .string aliceS, .string eB, .string eB, .slice none 0 0, .int .u64 0, .int .u32 0, .int .u32 0, .string eB, .string eB, .int .u8 1, .string aliceS, .string eB, .string eB, .slice none 0 0, .int .u64 0, .int .u32 0, .int .u32 0, .string eB, .string eB] 36)) fun en w' =>
    Below w.heap.size w w' ∧ ∃ g, en = .returned (.tuple #[.pointer none, .int .i64 1, faultV g]) ∧ w'.heap[g]? = some (.cells (faultCells 100 (wordB 1) 1) 108 (0, 0)) := by
  have B : Below w.heap.size w (w.alloc (twoO evA evA)) := (Below.refl _ _).alloc (Nat.le_refl _) _
  refine (of_any [(evA, .slice none 0 0), (evA, .slice none 0 0)] _ _ (hg.next B) (evsAt_two (heap_alloc_new w _) rfl rfl) haAA).mono ?_
  rintro en w' ⟨hb, ⟨S, h1, _⟩ | ⟨k, c, kd, v, h1, h2, h3, rfl, h4⟩⟩
  · have : ofP PSt.zero 0 [evA, evA] = .inl S.data := h1
    rw [al_bad] at this
    cases this
  · have : ofP PSt.zero 0 [evA, evA] = .inr (k, c, kd) := h2
    rw [al_bad] at this
    cases this
    rcases h4 with ⟨q, _⟩ | ⟨_, g, rfl, hgg⟩
    · cases q
    · exact ⟨bseq B hb, g, rfl, hgg⟩
theorem relFoo {S : St} (h : S.data = alX) : relIs S fooS oneS = true ∧ (relOf S fooS oneS).at_ = 2 ∧ (relOf S fooS oneS).by_ = aliceS := by
  have e : relP S.data fooS oneS = some (pubRel 2 evF) := by rw [h]; rfl
  have e1 := relIs_data S fooS oneS
  rw [e] at e1
  refine ⟨e1, ?_⟩
  rw [relP_data] at e
  unfold relOf
  cases hp : aget fooS S.packs with
  | none => rw [hp] at e; cases e
  | some p =>
    rw [hp] at e
    show ((aget oneS p.rels).getD zeroRel).at_ = 2 ∧ ((aget oneS p.rels).getD zeroRel).by_ = aliceS
    simp only [Option.bind_some] at e
    cases hr : aget oneS p.rels with
    | none => rw [hr] at e; cases e
    | some r =>
      rw [hr] at e
      simp only [Option.map_some, Option.some.injEq] at e
      exact ⟨congrArg PRel.at_ e, congrArg PRel.by_ e⟩
set_option maxHeartbeats 4000000 in
set_option maxRecDepth 100000 in
theorem alive_any (w : World) (hg : Glob w) : Calls Tryz.prog 17 #[] w fun e w' => e = .returned (.bool true) ∧ Below w.heap.size w w' := by
  have HO := Lib.hid (ofAF w hg); have HG := Lib.hid hg
  clear hg
  go_enter Tryz.func17, Tryz.ntmps17
  go_wp2_with (go_at_call 18; (with_reducible refine (HO.out).mono ?_))
  rintro e w1 ⟨hb1, S, hS, rfl, hst1⟩
  have HREL : Hid (∀ W, StAt W S → Calls Tryz.prog 24 #[ptr S.sid, .string fooS, .string oneS] W fun e w' => ∃ (nv : Value) (r : Rel), e = .returned (.tuple #[.agg (relCells { r with nv := nv }), .bool true]) ∧ (∃ A n c, nv = .slice A n c) ∧ r.at_ = 2 ∧ r.by_ = aliceS ∧ Below W.heap.size W w') := Lib.hid (fun W h => (release_any S fooS oneS W h).mono (by
    rintro e w' ⟨nv, rfl, hk, hb⟩
    obtain ⟨r1, r2, r3⟩ := relFoo hS
    rw [r1]
    obtain ⟨⟨A, c, hv, _⟩, _⟩ := hk
    exact ⟨nv, _, rfl, ⟨A, _, c, hv⟩, r2, r3, hb⟩))
  have HLIK : Hid (∀ W, StAt W S → Calls Tryz.prog 25 #[ptr S.sid, .string fOOS] W fun e w' => e = .returned (.tuple #[.string fooS, .bool true]) ∧ Below W.heap.size W w') := Lib.hid (fun W h => (like_any S fOOS W h (by decide)).mono (by
    rintro e w' ⟨rfl, hb⟩
    rw [hS, al_like]
    exact ⟨rfl, hb⟩))
  have HHD : Hid (∀ W, StAt W S → Calls Tryz.prog 15 #[ptr S.sid] W fun e w' => e = .returned (.int .i64 2) ∧ w' = W) := Lib.hid (fun W h => (head_any W S h).mono (by
    rintro e w' ⟨rfl, rfl⟩
    have : S.head = 2 := congrArg PSt.head hS
    rw [this]
    exact ⟨rfl, rfl⟩))
  have HST := Lib.hid hst1; have HB1 := Lib.hid hb1
  clear hS hst1 hb1
  go_wp2_with (go_at_call 24; (with_reducible refine (HREL.out _ HST.out).mono ?_))
  rintro e w2 ⟨nv, ⟨rver, rby, rat, rnv, rnd, rsum, rn, rsz, ryk, rnote⟩, rfl, ⟨A2, n2, c2, rfl⟩, hat, hby, hb2⟩
  obtain rfl : rat = 2 := hat
  obtain rfl : rby = aliceS := hby
  have HST2 := Lib.hid (HST.out.next hb2); have HB2 := Lib.hid hb2
  clear hb2
  unfold relCells
  have b3 : Below w2.heap.size w2 (w2.alloc (.cells #[.string rver, .string aliceS, .int .i64 2, .slice A2 n2 c2, .int .u64 rsum, .int .u32 rn, .int .u32 rsz, .bool ryk, .string rnote] 64)) := (Below.refl _ _).alloc (Nat.le_refl _) _
  have HR3 := Lib.hid (heap_alloc_new w2 (.cells #[.string rver, .string aliceS, .int .i64 2, .slice A2 n2 c2, .int .u64 rsum, .int .u32 rn, .int .u32 rsz, .bool ryk, .string rnote] 64))
  have HST3 := Lib.hid (HST2.out.next b3); have HB3 := Lib.hid b3
  clear b3
  go_wp2_with (go_at_call 25; (with_reducible refine (HLIK.out _ HST3.out).mono ?_))
  first | rintro e w4 rfl hb4 | rintro e w4 ⟨rfl, hb4⟩
  have HST4 := Lib.hid (HST3.out.next hb4)
  have HR4 := Lib.hid ((hb4.block w2.heap.size (by simp)).trans HR3.out)
  have B4 := bseq (bseq HB1.out HB2.out) (bseq HB3.out hb4)
  have HO2 := Lib.hid (ofAA w4 (HG.out.next B4)); have HB4 := Lib.hid B4
  clear hb4 B4
  go_wp2_with (go_at_call 18; (with_reducible refine (HO2.out).mono ?_))
  rintro e w5 ⟨hb5, g, rfl, hgg⟩
  have hst5 := HST4.out.next hb5
  have r5 := (hb5.block w2.heap.size (Array.getElem?_eq_some_iff.1 HR4.out).1).trans HR4.out
  have x1 := cells_of_block r5 1; have x2 := cells_of_block r5 2
  have HIS := Lib.hid (isErr_any 100 g _ _ w5 hgg)
  have HST5 := Lib.hid hst5; have HB5 := Lib.hid (bseq HB4.out hb5)
  simp at x1 x2
  clear hst5 r5 hgg hb5
  go_wp2_with (first | (go_at_call 15; ((with_reducible refine (HHD.out _ HST5.out).mono ?_); rintro e w6 ⟨rfl, rfl⟩)) | (go_at_call 51; ((with_reducible refine (HIS.out).mono ?_); rintro e w6 ⟨rfl, hb6⟩)))
  go_outline
  go_ret
  exact ⟨rfl, bseq HB5.out hb6⟩
end Go.Proofs.YtggdgjifhikmiaaGreatDoor
