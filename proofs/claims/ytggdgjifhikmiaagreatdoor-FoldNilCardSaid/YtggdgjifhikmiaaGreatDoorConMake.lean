/- Contracts of fold.fault and fold.Fits (also of a state that is not there). What turns in a state's blocks; contract of fold.account. -/
import Derived.Test.YtggdgjifhikmiaaGreatDoorConFits2
import Derived.Test.YtggdgjifhikmiaaGreatDoorFlt
set_option linter.unusedVariables false
namespace Go.Proofs.YtggdgjifhikmiaaGreatDoor
open Go.RowKit Yk
set_option maxHeartbeats 1000000 in
theorem fault_any (code : Int) (what : ByteArray) (w : World) (hc : code ≠ 0) :
    Calls Tryz.prog 34 #[.int .i64 code, .string what] w fun e w' => ∃ v, e = .returned v ∧ ErrIs w' v code what (-1) ∧ Below w.heap.size w w' := by
  go_enter Tryz.func34, Tryz.ntmps34
  go_wp2
  go_ret
  exact ⟨_, rfl, .inr ⟨hc, _, rfl, heap_alloc_new _ _⟩, (Below.refl _ _).alloc (Nat.le_refl _) _⟩
theorem fault_const (code : Int) (what : ByteArray) (w : World) :
    Calls Tryz.prog 34 #[.int .i64 code, .string what] w fun e w' => e = .returned (faultV w.heap.size) ∧ w'.heap[w.heap.size]? = some (.cells (faultCells code what (-1)) 108 (0, 0)) ∧ Below w.heap.size w w' := by
  go_enter Tryz.func34, Tryz.ntmps34
  go_wp2
  go_ret
  exact ⟨rfl, heap_alloc_new _ _, (Below.refl _ _).alloc (Nat.le_refl _) _⟩
/-- does an event fit? OK, or a number -/
def fitsCode (S : St) (e : Ev) (nb : Bool) : Int := if !evMayB e nb then 90 else if fitsS S e then 0 else 100
def wordB (k : Int) : ByteArray := mk (wordOf k)
set_option maxHeartbeats 1000000 in
/-- Fits of a state that is not there -/
theorem fitsNil_any (ev : Array Value) (w : World) (hev : ∃ k who nm ver hold note nd sm n sz nv, ev = evCells ⟨k, who, nm, ver, nd, sm, n, sz, hold, note⟩ nv ∧ NeedsAt w nv nd) :
    Calls Tryz.prog 9 #[.pointer none, .agg ev] w fun e w' => ∃ v, e = .returned v ∧ ErrIs w' v 1 eB (-1) ∧ Below w.heap.size w w' := by
  obtain ⟨k, who, nm, ver, hold, note, nd, sm, n, sz, nv, rfl, A, cp, rfl, _⟩ := hev
  unfold evCells
  go_enter Tryz.func9, Tryz.ntmps9
  go_wp2_with (go_at_call 34; refine (fault_any 1 _ _ (by decide)).mono ?_; rintro e w1 ⟨v, rfl, hv, hb⟩)
  go_ret
  exact ⟨_, rfl, hv, bseq ((Below.refl _ _).alloc (Nat.le_refl _) _) hb⟩
theorem fieldsOf_range {e : Ev} {nb : Bool} (h : evMayB e nb = true) : 1 ≤ e.kind ∧ e.kind ≤ 10 := by
  unfold evMayB at h
  rw [Bool.and_eq_true] at h
  have h1 := h.1
  unfold fieldsOf at h1
  repeat' split at h1
  all_goals first | omega | (simp at h1)
set_option maxHeartbeats 4000000 in
set_option maxRecDepth 100000 in
theorem Fits_any (k : Int) (who nm ver hold note : ByteArray) (nd : List (ByteArray × ByteArray)) (sm n sz : Int) (nv : Value) (nb : Bool) (S : St) (w : World)
    (hb : EvB ⟨k, who, nm, ver, nd, sm, n, sz, hold, note⟩) (hg : Glob w) (h : StAt w S) (hn : NeedsAt w nv nd) (HN : k = 2 → NeedsCon nv nd nb) :
    Calls Tryz.prog 9 #[ptr S.sid, .agg (evCells ⟨k, who, nm, ver, nd, sm, n, sz, hold, note⟩ nv)] w fun e w' =>
      ∃ v, e = .returned v ∧ ErrIs w' v (fitsCode S ⟨k, who, nm, ver, nd, sm, n, sz, hold, note⟩ nb) (wordB k) (-1) ∧ Below w.heap.size w w' := by
  have hn2 := hn
  obtain ⟨A, cp, rfl, _⟩ := hn2
  obtain ⟨qm, hqm⟩ : ∃ q, evMayB ⟨k, who, nm, ver, nd, sm, n, sz, hold, note⟩ nb = q := ⟨_, rfl⟩
  have hk0 : 0 ≤ k := hb.k0
  have hk1 : k ≤ 255 := hb.k1
  have HB := Lib.hid hb
  have hb1 : Below w.heap.size w (w.alloc (.cells (evCells ⟨k, who, nm, ver, nd, sm, n, sz, hold, note⟩ (.slice A nd.length cp)) 36)) := (Below.refl _ _).alloc (Nat.le_refl _) _
  have HM : Hid (∀ W, Glob W → NeedsAt W (.slice A nd.length cp) nd → Calls Tryz.prog 36 #[.agg (evCells ⟨k, who, nm, ver, nd, sm, n, sz, hold, note⟩ (.slice A nd.length cp))] W fun e w' => e = .returned (.int .i64 (okOr qm 90)) ∧ Below W.heap.size W w') := Lib.hid (fun W hW hN => by
    have := evMay_any k who nm ver hold note nd sm n sz (.slice A nd.length cp) nb W HB.out hW hN HN
    rwa [hqm] at this)
  have h0 := h.next hb1
  have hg0 := hg.next hb1
  have hn0 := hn.below hb1
  have E0 := Lib.hid (heap_alloc_new w (.cells (evCells ⟨k, who, nm, ver, nd, sm, n, sz, hold, note⟩ (.slice A nd.length cp)) 36))
  obtain ⟨wx, HW⟩ : ∃ x : Int, Hid (wordRet k = .returned (.tuple #[.string (wordB k), .int .i64 x])) := ⟨_, Lib.hid rfl⟩
  obtain ⟨wb, hwb⟩ : ∃ x, wordB k = x := ⟨_, rfl⟩
  rw [hwb] at HW ⊢
  clear hwb
  have HQM := Lib.hid hqm
  clear hb hqm
  cases qm with
  | false =>
    have HF : Hid (fitsCode S ⟨k, who, nm, ver, nd, sm, n, sz, hold, note⟩ nb = 90) := Lib.hid (by unfold fitsCode; rw [HQM.out]; rfl)
    rw [HF.out]
    unfold evCells
    go_enter Tryz.func9, Tryz.ntmps9
    go_wp2_with (go_at_call 35; refine (word_any k _ hk0 hk1).mono ?_)
    first | rintro e w1 rfl hb2 | rintro e w1 ⟨rfl, hb2⟩
    have hb2 := bfix hb2 (by simp)
    rw [HW.out]
    have E1 := (hb2.block w.heap.size (by simp)).trans E0.out
    obtain ⟨e0, e1, e2, e3, e4, e5, e6, e7, e8, e9⟩ := evcells E1
    have HE1 := Lib.hid E1
    clear E1
    have hg1 := hg0.next hb2; have hn1 := hn0.below hb2; have hs1 := h0.next hb2
    have hB1 := bseq hb1 hb2
    go_wp2_with (go_at_call 36; refine (HM.out _ hg1 hn1).mono ?_)
    first | rintro e w2 rfl hb3 | rintro e w2 ⟨rfl, hb3⟩
    have hb3 := bfix hb3 (by simp)
    have hB2 := bseq hB1 hb3
    go_wp2_with (go_at_call 34; refine (fault_any 90 wb _ (by decide)).mono ?_; rintro e w3 ⟨v, rfl, hv, hb4⟩)
    go_ret
    exact ⟨_, rfl, hv, bseq hB2 hb4⟩
  | true =>
    have hr := fieldsOf_range HQM.out
    have HR : Hid (1 ≤ k ∧ k ≤ 10) := Lib.hid hr
    obtain ⟨qf, hqf⟩ : ∃ q, fitsS S ⟨k, who, nm, ver, nd, sm, n, sz, hold, note⟩ = q := ⟨_, rfl⟩
    have HFT : Hid (∀ W, StAt W S → NeedsAt W (.slice A nd.length cp) nd → Calls Tryz.prog 37 #[ptr S.sid, .agg (evCells ⟨k, who, nm, ver, nd, sm, n, sz, hold, note⟩ (.slice A nd.length cp))] W fun e w' => e = .returned (.bool qf) ∧ Below W.heap.size W w') := Lib.hid (fun W hW hN => by
      have := fits_any k who nm ver hold note nd sm n sz (.slice A nd.length cp) S W HR.out HB.out.nm hW hN
      rwa [hqf] at this)
    have HF : Hid (fitsCode S ⟨k, who, nm, ver, nd, sm, n, sz, hold, note⟩ nb = if qf then 0 else 100) := Lib.hid (by unfold fitsCode; rw [HQM.out, hqf]; rfl)
    rw [HF.out]
    clear hr hqf
    unfold evCells
    cases qf
    · skip
      go_enter Tryz.func9, Tryz.ntmps9
      go_wp2_with (go_at_call 35; refine (word_any k _ hk0 hk1).mono ?_)
      first | rintro e w1 rfl hb2 | rintro e w1 ⟨rfl, hb2⟩
      have hb2 := bfix hb2 (by simp)
      rw [HW.out]
      have E1 := (hb2.block w.heap.size (by simp)).trans E0.out
      obtain ⟨e0, e1, e2, e3, e4, e5, e6, e7, e8, e9⟩ := evcells E1
      have HE1 := Lib.hid E1
      clear E1
      have hg1 := hg0.next hb2; have hn1 := hn0.below hb2; have hs1 := h0.next hb2
      have hB1 := bseq hb1 hb2
      go_wp2_with (go_at_call 36; refine (HM.out _ hg1 hn1).mono ?_)
      first | rintro e w2 rfl hb3 | rintro e w2 ⟨rfl, hb3⟩
      have hb3 := bfix hb3 (by simp)
      have hB2 := bseq hB1 hb3
      have E2 := (hb3.block w.heap.size (Array.getElem?_eq_some_iff.1 HE1.out).1).trans HE1.out
      obtain ⟨d0, d1, d2, d3, d4, d5, d6, d7, d8, d9⟩ := evcells E2
      clear E2 e0 e1 e2 e3 e4 e5 e6 e7 e8 e9
      have hn2 := hn1.below hb3; have hs2 := hs1.next hb3
      go_wp2_with (go_at_call 37; refine (HFT.out _ hs2 hn2).mono ?_)
      first | rintro e w3 rfl hb4 | rintro e w3 ⟨rfl, hb4⟩
      have hb4 := bfix hb4 (by simp)
      go_wp2_with (go_at_call 34; refine (fault_any 100 wb _ (by decide)).mono ?_; rintro e w4 ⟨v, rfl, hv, hb5⟩)
      go_ret
      exact ⟨_, rfl, hv, bseq (bseq hB2 hb4) hb5⟩
    · skip
      go_enter Tryz.func9, Tryz.ntmps9
      go_wp2_with (go_at_call 35; refine (word_any k _ hk0 hk1).mono ?_)
      first | rintro e w1 rfl hb2 | rintro e w1 ⟨rfl, hb2⟩
      have hb2 := bfix hb2 (by simp)
      rw [HW.out]
      have E1 := (hb2.block w.heap.size (by simp)).trans E0.out
      obtain ⟨e0, e1, e2, e3, e4, e5, e6, e7, e8, e9⟩ := evcells E1
      have HE1 := Lib.hid E1
      clear E1
      have hg1 := hg0.next hb2; have hn1 := hn0.below hb2; have hs1 := h0.next hb2
      have hB1 := bseq hb1 hb2
      go_wp2_with (go_at_call 36; refine (HM.out _ hg1 hn1).mono ?_)
      first | rintro e w2 rfl hb3 | rintro e w2 ⟨rfl, hb3⟩
      have hb3 := bfix hb3 (by simp)
      have hB2 := bseq hB1 hb3
      have E2 := (hb3.block w.heap.size (Array.getElem?_eq_some_iff.1 HE1.out).1).trans HE1.out
      obtain ⟨d0, d1, d2, d3, d4, d5, d6, d7, d8, d9⟩ := evcells E2
      clear E2 e0 e1 e2 e3 e4 e5 e6 e7 e8 e9
      have hn2 := hn1.below hb3; have hs2 := hs1.next hb3
      go_wp2_with (go_at_call 37; refine (HFT.out _ hs2 hn2).mono ?_)
      first | rintro e w3 rfl hb4 | rintro e w3 ⟨rfl, hb4⟩
      have hb4 := bfix hb4 (by simp)
      go_wp2
      go_ret
      exact ⟨_, rfl, .inl ⟨rfl, rfl⟩, bseq hB2 hb4⟩
end Go.Proofs.YtggdgjifhikmiaaGreatDoor
set_option linter.unusedVariables false
namespace Go.Proofs.YtggdgjifhikmiaaGreatDoor
open Go.RowKit Yk
/-- of what there was, nothing has turned but these blocks -/
structure Turned (I : List Nat) (w w' : World) : Prop where
  os : w'.os = w.os
  tape : w'.tape = w.tape
  output : w'.output = w.output
  size : w.heap.size ≤ w'.heap.size
  block : ∀ k, k < w.heap.size → k ∉ I → w'.heap[k]? = w.heap[k]?
theorem Turned.of_below {I : List Nat} {w w' : World} (h : Below w.heap.size w w') : Turned I w w' := ⟨h.os, h.tape, h.output, h.size, fun k hk _ => h.block k hk⟩
theorem Turned.refl (I : List Nat) (w : World) : Turned I w w := ⟨rfl, rfl, rfl, Nat.le_refl _, fun _ _ _ => rfl⟩
theorem Turned.trans {I J : List Nat} {a b c : World} (h : Turned I a b) (k : Turned J b c) (hJ : ∀ j ∈ J, j ∈ I ∨ a.heap.size ≤ j) : Turned I a c :=
  ⟨k.os.trans h.os, k.tape.trans h.tape, k.output.trans h.output, Nat.le_trans h.size k.size, fun i hi hn => (k.block i (Nat.lt_of_lt_of_le hi h.size) (fun hj => by
    rcases hJ i hj with h1 | h1
    · exact hn h1
    · omega)).trans (h.block i hi hn)⟩
theorem Turned.mono {I J : List Nat} {a b : World} (h : Turned I a b) (hJ : ∀ j ∈ I, j ∈ J) : Turned J a b :=
  ⟨h.os, h.tape, h.output, h.size, fun i hi hn => h.block i hi (fun q => hn (hJ i q))⟩
theorem Turned.below {I : List Nat} {w w' : World} (h : Turned I w w') (B : Nat) (hI : ∀ i ∈ I, B ≤ i) (hB : B ≤ w.heap.size) : Below B w w' :=
  ⟨h.os, h.tape, h.output, h.size, fun k hk => h.block k (by omega) (fun q => by have := hI k q; omega)⟩
theorem Turned.setBlk {w : World} {b : Nat} (o : Obj) : Turned [b] w (setBlk w b o) :=
  ⟨rfl, rfl, rfl, by simp, fun k _ hk => setBlk_other (by simpa using hk)⟩
theorem Turned.setCell {w : World} {b o : Nat} (u : Value) : Turned [b] w (w.setCell ⟨b, o, none⟩ u) :=
  ⟨rfl, rfl, rfl, by simp [World.setCell], fun k _ hk => heap_setCell_other u (by intro e; subst e; simp at hk)⟩
/-- a list as a map -/
def aput {α : Type} (k : ByteArray) (v : α) : List (ByteArray × α) → List (ByteArray × α)
  | [] => [(k, v)]
  | x :: r => if x.1 = k then (k, v) :: r else x :: aput k v r
theorem mput_map {α : Type} (f : α → Value) (k : ByteArray) (v : α) : ∀ l : List (ByteArray × α), mput k (f v) (l.map fun x => (x.1, f x.2)) = (aput k v l).map fun x => (x.1, f x.2)
  | [] => rfl
  | x :: r => by
    simp only [List.map_cons, mput, aput]
    by_cases h : x.1 = k
    · simp [h]
    · simp [h, mput_map f k v r]
theorem aput_mem {α : Type} {k : ByteArray} {v : α} {x : ByteArray × α} : ∀ {l : List (ByteArray × α)}, x ∈ aput k v l → x = (k, v) ∨ x ∈ l
  | [], h => by
    simp only [aput, List.mem_singleton] at h; exact .inl h
  | y :: r, h => by
    unfold aput at h
    by_cases e : y.1 = k
    · rw [if_pos e] at h
      cases h with
      | head => exact .inl rfl
      | tail _ h => exact .inr (.tail _ h)
    · rw [if_neg e] at h
      cases h with
      | head => exact .inr (.head _)
      | tail _ h =>
        rcases aput_mem h with h | h
        · exact .inl h
        · exact .inr (.tail _ h)
/-- the state's maps lie apart -/
theorem StAt.apart {w : World} {S : St} (h : StAt w S) : S.aid ≠ S.sid ∧ S.tid ≠ S.sid ∧ S.kid ≠ S.sid ∧ S.qid ≠ S.sid ∧ S.aid ≠ S.tid ∧ S.aid ≠ S.kid ∧ S.aid ≠ S.qid ∧ S.tid ≠ S.kid ∧ S.tid ≠ S.qid ∧ S.kid ≠ S.qid := by
  have := h.nd
  unfold St.ids at this
  simp at this
  obtain ⟨⟨a1, a2, a3, a4, _⟩, ⟨b1, b2, b3, _⟩, ⟨c1, c2, _⟩, ⟨d1, _⟩, _⟩ := this
  exact ⟨fun e => a1 e.symm, fun e => a2 e.symm, fun e => a3 e.symm, fun e => a4 e.symm, b1, b2, b3, c1, c2, d1⟩
theorem StAt.five {S : St} (h : S.ids.Nodup) : (∀ x ∈ S.teams, x.2.tid ∉ [S.sid, S.aid, S.tid, S.kid, S.qid]) ∧ (∀ x ∈ S.packs, ∀ i ∈ x.2.ids, i ∉ [S.sid, S.aid, S.tid, S.kid, S.qid]) ∧ ∀ x ∈ S.packs, ∀ i ∈ x.2.ids, ∀ y ∈ S.teams, i ≠ y.2.tid := by
  unfold St.ids at h
  rw [List.nodup_append, List.nodup_append] at h
  obtain ⟨⟨_, _, h1⟩, _, h2⟩ := h
  refine ⟨fun x hx hm => h1 _ hm _ (List.mem_map.2 ⟨x, hx, rfl⟩) rfl, fun x hx i hi hm => ?_, fun x hx i hi y hy e => ?_⟩
  · exact h2 _ (List.mem_append.2 (.inl hm)) _ (List.mem_flatMap.2 ⟨x, hx, hi⟩) rfl
  · exact h2 _ (List.mem_append.2 (.inr (List.mem_map.2 ⟨y, hy, rfl⟩))) _ (List.mem_flatMap.2 ⟨x, hx, hi⟩) e.symm
theorem PkAt.turned {w w' : World} {p : Pk} {b : Nat} (h : PkAt w p) (hT : Turned [b] w w') (hK : KeepN w w') (hb : b ∉ p.ids) : PkAt w' p := by
  simp only [Pk.ids, List.mem_cons, List.not_mem_nil, or_false, not_or] at hb
  obtain ⟨b1, b2, b3⟩ := hb
  exact ⟨(hT.block _ (Array.getElem?_eq_some_iff.1 h.hd).1 (by simpa using Ne.symm b1)).trans h.hd, h.ho.block (hT.block _ h.ho.lt (by simpa using Ne.symm b2)), h.re.block (hT.block _ h.re.lt (by simpa using Ne.symm b3)), fun x hx => (h.nd x hx).keep hK⟩
/-- one of the five has turned -/
theorem StAt.turn5 {w w' : World} {S : St} {b : Nat} (h : StAt w S) (hb : b ∈ [S.sid, S.aid, S.tid, S.kid, S.qid]) (hT : Turned [b] w w') (hK : KeepN w w') :
    (∀ x ∈ S.teams, MapIs w' x.2.tid (trues x.2.members)) ∧ ∀ x ∈ S.packs, PkAt w' x.2 := by
  obtain ⟨f1, f2, f3⟩ := StAt.five h.nd
  refine ⟨fun x hx => (h.tms x hx).block (hT.block _ (h.tms x hx).lt ?_), fun x hx => (h.pks x hx).turned hT hK (fun q => f2 x hx b q hb)⟩
  intro q
  simp only [List.mem_singleton] at q
  exact f1 x hx (q ▸ hb)
theorem keepN_map {w : World} {b : Nat} {M : Ents} (h : MapIs w b M) (o : Obj) : KeepN w (setBlk w b o) := by
  obtain ⟨es, c, hb, _⟩ := h
  exact KeepN.setBlk hb (fun _ _ => by simp)
def accountS (S : St) (e : Ev) : St := { S with accts := aput e.who e.sum S.accts }
theorem StAt.account {w : World} {S : St} (h : StAt w S) (e : Ev) (es : Array MapEntry) (c : Nat) (hm : ∀ w', w'.heap[S.aid]? = some (.map es c) → MapIs w' S.aid (mput e.who (.int .u64 e.sum) S.aE)) :
    StAt (setBlk w S.aid (.map es c)) (accountS S e) := by
  obtain ⟨a1, a2, a3, a4, b1, b2, b3, c1, c2, d1⟩ := h.apart
  obtain ⟨es0, c0, hb0, _⟩ := id h.ac
  obtain ⟨g1, g2⟩ := h.turn5 (b := S.aid) (by simp) (Turned.setBlk (.map es c)) (keepN_map h.ac _)
  refine ⟨(setBlk_other (Ne.symm a1)).trans h.hd, ?_, h.te.block (setBlk_other (Ne.symm b1)), h.pk.block (setBlk_other (Ne.symm b2)), h.sq.block (setBlk_other (Ne.symm b3)), g1, g2, h.nd⟩
  have := hm _ (setBlk_same hb0)
  unfold St.aE at this
  rwa [mput_map (fun x : Int => Value.int .u64 x)] at this
abbrev noRet : Ending := .returned (.tuple #[])
set_option maxHeartbeats 2000000 in
set_option maxRecDepth 100000 in
theorem account_any (k : Int) (who nm ver hold note : ByteArray) (nd : List (ByteArray × ByteArray)) (sm n sz : Int) (nv : Value) (S : St) (w : World) (h : StAt w S) (hn : NeedsAt w nv nd) :
    Calls Tryz.prog 38 #[ptr S.sid, .agg (evCells ⟨k, who, nm, ver, nd, sm, n, sz, hold, note⟩ nv)] w fun e w' => e = noRet ∧ StAt w' (accountS S ⟨k, who, nm, ver, nd, sm, n, sz, hold, note⟩) ∧ Turned [S.aid] w w' ∧ KeepN w w' := by
  obtain ⟨A, cp, rfl, _⟩ := hn
  have hb1 : Below w.heap.size w (w.alloc (.cells (evCells ⟨k, who, nm, ver, nd, sm, n, sz, hold, note⟩ (.slice A nd.length cp)) 36)) := (Below.refl _ _).alloc (Nat.le_refl _) _
  have h0 := h.next hb1
  have h1 := h0.next ((Below.refl _ _).drew)
  obtain ⟨es, c, hp, hm⟩ := h1.ac.put Tryz.underlying75 Tryz.underlying9 who (.int .u64 sm)
  have hpd := hp _ rfl
  obtain ⟨c0, c1, c2, c3, c4⟩ := h0.cells
  have HM := Lib.hid hm; have H1 := Lib.hid h1
  clear hp hm h1
  unfold evCells
  go_enter Tryz.func38, Tryz.ntmps38
  go_wp2
  go_region
  go_end0
  exact ⟨rfl, StAt.account H1.out ⟨k, who, nm, ver, nd, sm, n, sz, hold, note⟩ es c HM.out, (Turned.of_below (I := [S.aid]) (hb1.drew)).trans (Turned.setBlk _) (fun j hj => .inl hj), (KeepN.below hb1.drew).trans (keepN_map H1.out.ac _)⟩
end Go.Proofs.YtggdgjifhikmiaaGreatDoor
