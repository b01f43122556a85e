/- Contract of fold.Apply: an event that does not fit; an account. Contract of fold.publish, both ways; of fold.Apply at a publish. -/
import Derived.Test.YtggdgjifhikmiaaGreatDoorConPub2
import Derived.Laws.EntriesVeiled
set_option linter.unusedVariables false
namespace Go.Proofs.YtggdgjifhikmiaaGreatDoor
open Go.RowKit Yk
set_option maxHeartbeats 4000000 in
set_option maxRecDepth 100000 in
theorem applyErr_any (k : Int) (who nm ver hold note : ByteArray) (nd : List (ByteArray × ByteArray)) (sm n sz : Int) (nv : Value) (nb : Bool) (S : St) (w : World)
    (hb : EvB ⟨k, who, nm, ver, nd, sm, n, sz, hold, note⟩) (hg : Glob w) (h : StAt w S) (hn : NeedsAt w nv nd) (HN : k = 2 → NeedsCon nv nd nb) (hc : fitsCode S ⟨k, who, nm, ver, nd, sm, n, sz, hold, note⟩ nb ≠ 0) :
    Calls Tryz.prog 10 #[ptr S.sid, .agg (evCells ⟨k, who, nm, ver, nd, sm, n, sz, hold, note⟩ nv)] w fun e w' =>
      ∃ v, e = .returned v ∧ ErrIs w' v (fitsCode S ⟨k, who, nm, ver, nd, sm, n, sz, hold, note⟩ nb) (wordB k) (-1) ∧ Below w.heap.size w w' := by
  obtain ⟨A, cp, rfl, _⟩ := id hn
  have hb1 : Below w.heap.size w (w.alloc (.cells (evCells ⟨k, who, nm, ver, nd, sm, n, sz, hold, note⟩ (.slice A nd.length cp)) 36)) := (Below.refl _ _).alloc (Nat.le_refl _) _
  have HC : Hid (∀ W, Glob W → StAt W S → NeedsAt W (.slice A nd.length cp) nd → Calls Tryz.prog 9 #[ptr S.sid, .agg (evCells ⟨k, who, nm, ver, nd, sm, n, sz, hold, note⟩ (.slice A nd.length cp))] W fun e w' => ∃ v, e = .returned v ∧ ErrIs w' v (fitsCode S ⟨k, who, nm, ver, nd, sm, n, sz, hold, note⟩ nb) (wordB k) (-1) ∧ Below W.heap.size W w') :=
    Lib.hid (fun W h1 h2 h3 => Fits_any k who nm ver hold note nd sm n sz (.slice A nd.length cp) nb S W hb h1 h2 h3 HN)
  obtain ⟨c, hcc⟩ : ∃ c, fitsCode S ⟨k, who, nm, ver, nd, sm, n, sz, hold, note⟩ nb = c := ⟨_, rfl⟩
  rw [hcc] at HC hc ⊢
  have h0 := h.next hb1; have hg0 := hg.next hb1; have hn0 := hn.below hb1
  have HCC := Lib.hid hc
  clear hb hg h hn HN hcc hc
  unfold evCells
  go_enter Tryz.func10, Tryz.ntmps10
  go_wp2_with (go_at_call 9; refine (HC.out _ hg0 h0 hn0).mono ?_)
  rintro e w1 ⟨v, rfl, hv, hb2⟩
  rcases hv with ⟨h1, h2⟩ | ⟨h1, g, rfl, hgg⟩
  · exact absurd h1 HCC.out
  · have HGG := Lib.hid hgg
    clear hgg
    go_wp2
    go_ret
    exact ⟨_, rfl, .inr ⟨h1, g, rfl, HGG.out⟩, bseq hb1 hb2⟩
abbrev fnv (f : Nat) : Value := .func (.func f) #[] #[]
abbrev FN : Obj := .cells #[.nilFunc, fnv 38, fnv 39, fnv 40, fnv 40, fnv 41, fnv 42, fnv 42, fnv 43, fnv 44, fnv 44] 89
/-- what the call of the making function reads -/
structure AM (b fb : Nat) (e : Ev) (nv : Value) (x : World) : Prop where
  ev : x.heap[b]? = some (.cells (evCells e nv) 36 (0, 0))
  fn : x.heap[fb]? = some FN
theorem stNoStr {x : World} {S : St} (h : x.heap[S.sid]? = some (.cells (stCells S) 80 (0, 0))) {o : Nat} {u : ByteArray} (hc : x.cell? ⟨S.sid, o, none⟩ = some (.string u)) : False := by
  rw [cells_of_block h o] at hc
  match o, hc with
  | 0, hc => simp at hc
  | 1, hc => simp at hc
  | 2, hc => simp at hc
  | 3, hc => simp at hc
  | 4, hc => simp at hc
  | n + 5, hc => simp at hc
theorem AM.turned {b fb : Nat} {e : Ev} {nv : Value} {x y : World} {I : List Nat} (h : AM b fb e nv x) (ht : Turned I x y) (hI : ∀ i ∈ I, ∀ {o : Nat} {u : Value}, x.cell? ⟨i, o, none⟩ = some u → False) : AM b fb e nv y :=
  ⟨(ht.block _ (Array.getElem?_eq_some_iff.1 h.ev).1 (fun q => hI _ q (cells_of_block h.ev 0))).trans h.ev, (ht.block _ (Array.getElem?_eq_some_iff.1 h.fn).1 (fun q => hI _ q (cells_of_block h.fn 0))).trans h.fn⟩
theorem AM.all {b fb : Nat} {e : Ev} {nv : Value} {x : World} (h : AM b fb e nv x) (i : Nat) (v : Value) (hv : (#[Value.nilFunc, fnv 38, fnv 39, fnv 40, fnv 40, fnv 41, fnv 42, fnv 42, fnv 43, fnv 44, fnv 44] : Array Value)[i]? = some v) :
    x.cell? ⟨b, 0, none⟩ = some (.int .u8 e.kind) ∧ x.cell? ⟨b, 1, none⟩ = some (.string e.who) ∧ x.cell? ⟨b, 2, none⟩ = some (.string e.nm) ∧ x.cell? ⟨b, 3, none⟩ = some (.string e.ver) ∧ x.cell? ⟨b, 4, none⟩ = some nv ∧
    x.cell? ⟨b, 5, none⟩ = some (.int .u64 e.sum) ∧ x.cell? ⟨b, 6, none⟩ = some (.int .u32 e.n) ∧ x.cell? ⟨b, 7, none⟩ = some (.int .u32 e.size) ∧ x.cell? ⟨b, 8, none⟩ = some (.string e.hold) ∧ x.cell? ⟨b, 9, none⟩ = some (.string e.note) ∧ x.cell? ⟨fb, i, none⟩ = some v := by
  obtain ⟨e0, e1, e2, e3, e4, e5, e6, e7, e8, e9⟩ := evcells h.ev
  exact ⟨e0, e1, e2, e3, e4, e5, e6, e7, e8, e9, (cells_of_block h.fn i).trans hv⟩
def headS (S : St) : St := { S with head := S.head + 1 }
theorem StAt.head {w : World} {S : St} (h : StAt w S) : StAt (w.setCell ⟨S.sid, 0, none⟩ (.int .i64 (S.head + 1))) (headS S) := by
  obtain ⟨a1, a2, a3, a4, b1, b2, b3, c1, c2, d1⟩ := h.apart
  obtain ⟨g1, g2⟩ := h.turn5 (b := S.sid) (by simp) (Turned.setCell (.int .i64 (S.head + 1))) (KeepN.setCell h.hd (by decide) _)
  exact ⟨heap_setCell_same h.hd _, h.ac.block (heap_setCell_other _ a1.symm), h.te.block (heap_setCell_other _ a2.symm), h.pk.block (heap_setCell_other _ a3.symm), h.sq.block (heap_setCell_other _ a4.symm), g1, g2, h.nd⟩
set_option maxHeartbeats 4000000 in
set_option maxRecDepth 100000 in
theorem apply1_any (who nm ver hold note : ByteArray) (nd : List (ByteArray × ByteArray)) (sm n sz : Int) (nv : Value) (nb : Bool) (S : St) (w : World)
    (hb : EvB ⟨1, who, nm, ver, nd, sm, n, sz, hold, note⟩) (hg : Glob w) (h : StAt w S) (hn : NeedsAt w nv nd) (hc : fitsCode S ⟨1, who, nm, ver, nd, sm, n, sz, hold, note⟩ nb = 0) (hh : 0 ≤ S.head ∧ S.head ≤ 4611686018427387904) :
    Calls Tryz.prog 10 #[ptr S.sid, .agg (evCells ⟨1, who, nm, ver, nd, sm, n, sz, hold, note⟩ nv)] w fun e w' =>
      e = .returned .nilIface ∧ StAt w' (accountS (headS S) ⟨1, who, nm, ver, nd, sm, n, sz, hold, note⟩) ∧ Turned [S.sid, S.aid] w w' ∧ KeepN w w' := by
  obtain ⟨A, cp, rfl, _⟩ := id hn
  have hb1 : Below w.heap.size w (w.alloc (.cells (evCells ⟨1, who, nm, ver, nd, sm, n, sz, hold, note⟩ (.slice A nd.length cp)) 36)) := (Below.refl _ _).alloc (Nat.le_refl _) _
  have HC : Hid (∀ W, Glob W → StAt W S → NeedsAt W (.slice A nd.length cp) nd → Calls Tryz.prog 9 #[ptr S.sid, .agg (evCells ⟨1, who, nm, ver, nd, sm, n, sz, hold, note⟩ (.slice A nd.length cp))] W fun e w' => e = .returned .nilIface ∧ Below W.heap.size W w') :=
    Lib.hid (fun W h1 h2 h3 => (Fits_any 1 who nm ver hold note nd sm n sz (.slice A nd.length cp) nb S W hb h1 h2 h3 (fun e => by cases e)).mono (by
      rintro e w' ⟨v, rfl, hv, hb2⟩
      rw [hc] at hv
      rcases hv with ⟨_, rfl⟩ | ⟨h, _⟩
      · exact ⟨rfl, hb2⟩
      · exact absurd rfl h))
  have h0 := h.next hb1; have hg0 := hg.next hb1; have hn0 := hn.below hb1
  have E0 := Lib.hid (heap_alloc_new w (.cells (evCells ⟨1, who, nm, ver, nd, sm, n, sz, hold, note⟩ (.slice A nd.length cp)) 36))
  have HH := Lib.hid hh; have HS := Lib.hid h
  have hh1 := hh.1; have hh2 := hh.2
  clear hb hg h hn hc hh
  unfold evCells
  go_enter Tryz.func10, Tryz.ntmps10
  go_wp2_with (go_at_call 9; refine (HC.out _ hg0 h0 hn0).mono ?_)
  first | rintro e w1 rfl hb2 | rintro e w1 ⟨rfl, hb2⟩
  have hb2 := bfix hb2 (by simp)
  have h1 := h0.next hb2
  have E1 := (hb2.block w.heap.size (by simp)).trans E0.out
  have hbX : Below w1.heap.size w1 (w1.alloc FN) := (Below.refl _ _).alloc (Nat.le_refl _) _
  have hX := h1.next hbX
  obtain ⟨c0, c1, c2, c3, c4⟩ := hX.cells
  have f0 := Lib.frozen_of_heap hX.hd 0
  have hEX := (hbX.block w.heap.size (Array.getElem?_eq_some_iff.1 E1).1).trans E1
  obtain ⟨e0, e1, e2, e3, e4, e5, e6, e7, e8, e9⟩ := evcells hEX
  have hnX := (hn0.below hb2).below hbX
  have hev : (w1.alloc FN).heap[w.heap.size]? = _ := hEX
  have hY := hX.head
  have hq : w.heap.size ≠ S.sid := by intro e; have := hX.hd; rw [← e, hEX] at this; simp only [Option.some.injEq, Obj.cells.injEq] at this; exact absurd this.2.1 (by decide)
  have hq2 : w1.heap.size ≠ S.sid := by intro e; have := (Array.getElem?_eq_some_iff.1 h1.hd).1; omega
  have hAM : AM w.heap.size w1.heap.size ⟨1, who, nm, ver, nd, sm, n, sz, hold, note⟩ (.slice A nd.length cp) ((w1.alloc FN).setCell ⟨S.sid, 0, none⟩ (.int .i64 (S.head + 1))) :=
    ⟨(heap_setCell_other _ hq.symm).trans hEX, (heap_setCell_other _ hq2.symm).trans (heap_alloc_new w1 FN)⟩
  have HY := Lib.hid hY; have HAM := Lib.hid hAM; have HBX := Lib.hid (bseq (bseq hb1 hb2) hbX); have HHD := Lib.hid hX.hd; have HNX := Lib.hid hnX; have HSX := Lib.hid hX
  have HNS : Hid (∀ (X : World), X.heap[S.sid]? = some (.cells (stCells S) 80 (0, 0)) → ∀ i ∈ [S.sid], ∀ {o : Nat} {u : ByteArray}, X.cell? ⟨i, o, none⟩ = some (.string u) → False) := Lib.hid (fun X hX i hi => by
    simp only [List.mem_singleton] at hi; subst hi
    exact fun {_ _} hc => stNoStr hX hc)
  clear hY hAM hbX hX hEX hnX hev hq hq2 E1 hb2 h1
  go_wp2
  obtain ⟨Y, hYe⟩ : ∃ Y, Y = (w1.alloc FN).setCell ⟨S.sid, 0, none⟩ (.int .i64 (S.head + 1)) := ⟨_, rfl⟩
  have tY : Turned [S.sid, S.aid] w Y := by rw [hYe]; exact (Turned.of_below HBX.out).trans (Turned.setCell _) (fun j hj => .inl (by simp only [List.mem_singleton] at hj; simp [hj]))
  have kY : KeepN w Y := by rw [hYe]; exact (KeepN.below HBX.out).trans (KeepN.setCell HHD.out (by decide) _)
  have sY : StAt Y (headS S) := by rw [hYe]; exact HY.out
  have aY : AM w.heap.size w1.heap.size ⟨1, who, nm, ver, nd, sm, n, sz, hold, note⟩ (.slice A nd.length cp) Y := by rw [hYe]; exact HAM.out
  have nY : NeedsAt Y (.slice A nd.length cp) nd := by
    rw [hYe]
    exact needs_turned HNX.out (Turned.setCell (b := S.sid) (o := 0) (.int .i64 (S.head + 1))) (HNS.out _ HHD.out)
  rw [← hYe]
  have B3 : Below Y.heap.size Y Y.drew := (Below.refl _ _).drew
  have HYD := Lib.hid (sY.next B3); have HND := Lib.hid (nY.below B3)
  have HAD := Lib.hid (aY.turned (I := []) (Turned.of_below B3) (fun i hi => by cases hi))
  have TY := Lib.hid tY; have KY := Lib.hid kY; have HB3 := Lib.hid B3
  clear hYe tY kY sY aY nY B3 c0 c1 c2 c3 c4 f0 e0 e1 e2 e3 e4 e5 e6 e7 e8 e9
  go_region_held3 (fun x => x.cell? ⟨w.heap.size, 0, none⟩ = some (.int .u8 1) ∧ x.cell? ⟨w.heap.size, 1, none⟩ = some (.string who) ∧ x.cell? ⟨w.heap.size, 2, none⟩ = some (.string nm) ∧ x.cell? ⟨w.heap.size, 3, none⟩ = some (.string ver) ∧ x.cell? ⟨w.heap.size, 4, none⟩ = some (.slice A nd.length cp) ∧
      x.cell? ⟨w.heap.size, 5, none⟩ = some (.int .u64 sm) ∧ x.cell? ⟨w.heap.size, 6, none⟩ = some (.int .u32 n) ∧ x.cell? ⟨w.heap.size, 7, none⟩ = some (.int .u32 sz) ∧ x.cell? ⟨w.heap.size, 8, none⟩ = some (.string hold) ∧ x.cell? ⟨w.heap.size, 9, none⟩ = some (.string note) ∧ x.cell? ⟨w1.heap.size, 1, none⟩ = some (fnv 38))
    ((first | with_reducible exact HAD.out.all 1 _ rfl | with_reducible exact ham3.all 1 _ rfl))
    ((go_at_call 38; refine (account_any 1 who nm ver hold note nd sm n sz (.slice A nd.length cp) (headS S) _ HYD.out HND.out).mono ?_; rintro e w3 ⟨rfl, hst3, ht3, hk3⟩; have ham3 := HAD.out.turned ht3 (fun i hi => by simp only [List.mem_singleton] at hi; subst hi; exact fun {_ _} hc => cell_not_map HYD.out.ac hc)))
  obtain ⟨e0, e1, e2, e3, e4, e5, e6, e7, e8, e9⟩ := evcells ham3.ev
  have HST3 := Lib.hid hst3; have HT3 := Lib.hid ht3; have HK3 := Lib.hid hk3
  have HA : Hid (aboutE 1 nm = .returned (.tuple #[.string eB, .bool false])) := Lib.hid rfl
  clear hst3 ht3 hk3 ham3
  go_wp2_with (go_at_call 45; refine (about_any 1 who nm ver hold note nd sm n sz (.slice A nd.length cp) _ (by decide) (by decide)).mono ?_)
  first | rintro e w4 rfl hb4 | rintro e w4 ⟨rfl, hb4⟩
  rw [HA.out]
  go_wp2
  go_ret
  exact ⟨rfl, HST3.out.next hb4, ((TY.out.more (Turned.of_below HB3.out)).trans HT3.out (fun j hj => .inl (by have : (headS S).aid = S.aid := rfl; simp only [List.mem_singleton] at hj; rw [hj, this]; simp))).more (Turned.of_below hb4), (KY.out.trans (KeepN.below HB3.out)).trans (HK3.out.trans (KeepN.below hb4))⟩
end Go.Proofs.YtggdgjifhikmiaaGreatDoor
set_option linter.unusedVariables false
namespace Go.Proofs.YtggdgjifhikmiaaGreatDoor
open Go.RowKit Yk
/-- what a publish makes of a state -/
def PubRes (S0 : St) (e : Ev) (base : Nat) (S' : St) (p : Pk) : Prop :=
  (∃ p0 nv', aget e.nm S0.packs = some p0 ∧ p = { p0 with rels := aput e.ver (newRel S0 e nv') p0.rels } ∧ S' = setPack S0 e.nm p) ∨
  (∃ p0 nv', aget e.nm S0.packs = none ∧ (p0.holders = [e.who] ∧ p0.touched = 0 ∧ p0.rels = [] ∧ ∀ i ∈ p0.ids, base ≤ i) ∧ p = { p0 with rels := aput e.ver (newRel S0 e nv') p0.rels } ∧ S' = setPack (addPack S0 e.nm p0) e.nm p)
def mapOf (S : St) (i : Nat) : Prop := i = S.kid ∨ i = S.qid ∨ ∃ x ∈ S.packs, i = x.2.rid
theorem mapOf_no {w : World} {S : St} (h : StAt w S) {i : Nat} (hi : mapOf S i) {o : Nat} {u : Value} (hc : w.cell? ⟨i, o, none⟩ = some u) : False := by
  rcases hi with rfl | rfl | ⟨x, hx, rfl⟩
  · exact cell_not_map h.pk hc
  · exact cell_not_map h.sq hc
  · exact cell_not_map (h.pks x hx).re hc
theorem publish_any (k : Int) (who nm ver hold note : ByteArray) (nd : List (ByteArray × ByteArray)) (sm n sz : Int) (nv : Value) (S : St) (w : World)
    (h : StAt w S) (hn : NeedsAt w nv nd) (hnm : nm.size ≤ 9223372036854775807) :
    Calls Tryz.prog 39 #[ptr S.sid, .agg (evCells ⟨k, who, nm, ver, nd, sm, n, sz, hold, note⟩ nv)] w fun e w' =>
      e = noRet ∧ ∃ S' p I, PubRes S ⟨k, who, nm, ver, nd, sm, n, sz, hold, note⟩ w.heap.size S' p ∧ StAt w' S' ∧ Turned I w w' ∧ KeepN w w' ∧ ∀ i ∈ I, mapOf S i := by
  cases hp : aget nm S.packs with
  | some p =>
    refine (publishOld_any k who nm ver hold note nd sm n sz nv S p w h hn hp).mono ?_
    rintro e w' ⟨rfl, nv', hst, ht, hk⟩
    obtain ⟨x, hx, _, hx2⟩ := aget_mem hp
    exact ⟨rfl, _, _, [p.rid], .inl ⟨p, nv', hp, rfl, rfl⟩, hst, ht, hk, fun i hi => .inr (.inr ⟨x, hx, by simp only [List.mem_singleton] at hi; rw [hi, hx2]⟩)⟩
  | none =>
    refine (publishNew_any k who nm ver hold note nd sm n sz nv S w h hn hp hnm).mono ?_
    rintro e w' ⟨rfl, nv', p, hpp, hst, ht, hk⟩
    refine ⟨rfl, _, _, [S.kid, S.qid], .inr ⟨p, nv', hp, hpp, rfl, rfl⟩, hst, ht, hk, fun i hi => ?_⟩
    simp only [List.mem_cons, List.not_mem_nil, or_false] at hi
    rcases hi with rfl | rfl
    · exact .inl rfl
    · exact .inr (.inl rfl)
theorem PubRes.pk {S0 S' : St} {e : Ev} {b : Nat} {p : Pk} (h : PubRes S0 e b S' p) : aget e.nm S'.packs = some p ∧ S'.sid = S0.sid ∧ S'.head = S0.head := by
  rcases h with ⟨p0, nv', _, _, rfl⟩ | ⟨p0, nv', _, _, _, rfl⟩
  · exact ⟨aget_aput _ _ _, rfl, rfl⟩
  · exact ⟨aget_aput _ _ _, rfl, rfl⟩
theorem PubRes.mono {S0 S' : St} {e : Ev} {b b' : Nat} {p : Pk} (h : PubRes S0 e b S' p) (hb : b' ≤ b) : PubRes S0 e b' S' p := by
  rcases h with h | ⟨p0, nv', h1, ⟨h2, h3, h4, h5⟩, h6⟩
  · exact .inl h
  · exact .inr ⟨p0, nv', h1, ⟨h2, h3, h4, fun i hi => Nat.le_trans hb (h5 i hi)⟩, h6⟩
/-- a package is touched -/
theorem touch_at {w : World} {S : St} {n : ByteArray} {p : Pk} (h : StAt w S) (hp : aget n S.packs = some p) (t : Int) : StAt (w.setCell ⟨p.pid, 1, none⟩ (.int .i64 t)) (setPack S n { p with touched := t }) := by
  have hpk := h.pkAt hp
  obtain ⟨a1, a2, a3⟩ := h.packApart hp
  have hK : KeepN w (w.setCell ⟨p.pid, 1, none⟩ (.int .i64 t)) := KeepN.setCell hpk.hd (by decide) _
  refine StAt.setPack (q := { p with touched := t }) h hp ⟨rfl, rfl, rfl⟩ p.pid (by simp [Pk.ids]) (Turned.setCell _) hK ⟨heap_setCell_same hpk.hd _, hpk.ho.block (heap_setCell_other _ a1), hpk.re.block (heap_setCell_other _ a2), fun x hx => (hpk.nd x hx).keep hK⟩
structure TM (S : St) (nm : ByteArray) (p : Pk) (x : World) : Prop where
  st : StAt x S
  pk : aget nm S.packs = some p
abbrev T3 (S : St) (nm : ByteArray) (p : Pk) (h : Int) (x : World) : Prop := x.cell? ⟨S.sid, 3, none⟩ = some (.map (some S.kid)) ∧ x.cell? ⟨S.sid, 0, none⟩ = some (.int .i64 h) ∧ (Instr.lookup 77 (.map (some S.kid)) (.string nm) false).run Tryz.prog x = .ok (ptr p.pid) x
theorem TM.all {S : St} {nm : ByteArray} {p : Pk} {x : World} (h : TM S nm p x) : T3 S nm p S.head x := by
  have l := lkK h.st nm
  rw [h.pk] at l
  exact ⟨h.st.cells.2.2.2.1, h.st.cells.1, l⟩
set_option maxHeartbeats 4000000 in
set_option maxRecDepth 100000 in
theorem apply2_any (who nm ver hold note : ByteArray) (nd : List (ByteArray × ByteArray)) (sm n sz : Int) (nv : Value) (nb : Bool) (S : St) (w : World)
    (hb : EvB ⟨2, who, nm, ver, nd, sm, n, sz, hold, note⟩) (hg : Glob w) (h : StAt w S) (hn : NeedsAt w nv nd) (hc : fitsCode S ⟨2, who, nm, ver, nd, sm, n, sz, hold, note⟩ nb = 0) (hh : 0 ≤ S.head ∧ S.head ≤ 4611686018427387904) (HN : NeedsCon nv nd nb) :
    Calls Tryz.prog 10 #[ptr S.sid, .agg (evCells ⟨2, who, nm, ver, nd, sm, n, sz, hold, note⟩ nv)] w fun e w' =>
      e = .returned .nilIface ∧ ∃ S' p I, PubRes (headS S) ⟨2, who, nm, ver, nd, sm, n, sz, hold, note⟩ w.heap.size S' p ∧ StAt w' (setPack S' nm { p with touched := S.head + 1 }) ∧ Turned (S.sid :: p.pid :: I) w w' ∧ KeepN w w' ∧ (∀ i ∈ I, mapOf (headS S) i) := by
  obtain ⟨A, cp, rfl, _⟩ := id hn
  have hb1 : Below w.heap.size w (w.alloc (.cells (evCells ⟨2, who, nm, ver, nd, sm, n, sz, hold, note⟩ (.slice A nd.length cp)) 36)) := (Below.refl _ _).alloc (Nat.le_refl _) _
  have HC : Hid (∀ W, Glob W → StAt W S → NeedsAt W (.slice A nd.length cp) nd → Calls Tryz.prog 9 #[ptr S.sid, .agg (evCells ⟨2, who, nm, ver, nd, sm, n, sz, hold, note⟩ (.slice A nd.length cp))] W fun e w' => e = .returned .nilIface ∧ Below W.heap.size W w') :=
    Lib.hid (fun W h1 h2 h3 => (Fits_any 2 who nm ver hold note nd sm n sz (.slice A nd.length cp) nb S W hb h1 h2 h3 (fun _ => HN)).mono (by
      rintro e w' ⟨v, rfl, hv, hb2⟩
      rw [hc] at hv
      rcases hv with ⟨_, rfl⟩ | ⟨h, _⟩
      · exact ⟨rfl, hb2⟩
      · exact absurd rfl h))
  have h0 := h.next hb1; have hg0 := hg.next hb1; have hn0 := hn.below hb1
  have E0 := Lib.hid (heap_alloc_new w (.cells (evCells ⟨2, who, nm, ver, nd, sm, n, sz, hold, note⟩ (.slice A nd.length cp)) 36))
  have HH := Lib.hid hh; have HS := Lib.hid h
  have hh1 := hh.1; have hh2 := hh.2
  have HNM : Hid (nm.size ≤ 140737488355328) := Lib.hid hb.nm
  clear hb hg h hn hc hh
  unfold evCells
  go_enter Tryz.func10, Tryz.ntmps10
  go_wp2_with (go_at_call 9; refine (HC.out _ hg0 h0 hn0).mono ?_)
  first | rintro e w1 rfl hb2 | rintro e w1 ⟨rfl, hb2⟩
  have hb2 := bfix hb2 (by simp)
  have h1 := h0.next hb2
  have E1 := (hb2.block w.heap.size (by simp)).trans E0.out
  have hbX : Below w1.heap.size w1 (w1.alloc FN) := (Below.refl _ _).alloc (Nat.le_refl _) _
  have hX := h1.next hbX
  obtain ⟨c0, c1, c2, c3, c4⟩ := hX.cells
  have f0 := Lib.frozen_of_heap hX.hd 0
  have hEX := (hbX.block w.heap.size (Array.getElem?_eq_some_iff.1 E1).1).trans E1
  obtain ⟨e0, e1, e2, e3, e4, e5, e6, e7, e8, e9⟩ := evcells hEX
  have hnX := (hn0.below hb2).below hbX
  have hev : (w1.alloc FN).heap[w.heap.size]? = _ := hEX
  have hY := hX.head
  have hq : w.heap.size ≠ S.sid := by intro e; have := hX.hd; rw [← e, hEX] at this; simp only [Option.some.injEq, Obj.cells.injEq] at this; exact absurd this.2.1 (by decide)
  have hq2 : w1.heap.size ≠ S.sid := by intro e; have := (Array.getElem?_eq_some_iff.1 h1.hd).1; omega
  have hAM : AM w.heap.size w1.heap.size ⟨2, who, nm, ver, nd, sm, n, sz, hold, note⟩ (.slice A nd.length cp) ((w1.alloc FN).setCell ⟨S.sid, 0, none⟩ (.int .i64 (S.head + 1))) :=
    ⟨(heap_setCell_other _ hq.symm).trans hEX, (heap_setCell_other _ hq2.symm).trans (heap_alloc_new w1 FN)⟩
  have HY := Lib.hid hY; have HAM := Lib.hid hAM; have HBX := Lib.hid (bseq (bseq hb1 hb2) hbX); have HHD := Lib.hid hX.hd; have HNX := Lib.hid hnX; have HSX := Lib.hid hX
  have HNS : Hid (∀ (X : World), X.heap[S.sid]? = some (.cells (stCells S) 80 (0, 0)) → ∀ i ∈ [S.sid], ∀ {o : Nat} {u : ByteArray}, X.cell? ⟨i, o, none⟩ = some (.string u) → False) := Lib.hid (fun X hX i hi => by
    simp only [List.mem_singleton] at hi; subst hi
    exact fun {_ _} hc => stNoStr hX hc)
  clear hY hAM hbX hX hEX hnX hev hq hq2 E1 hb2 h1
  go_wp2
  obtain ⟨Y, hYe⟩ : ∃ Y, Y = (w1.alloc FN).setCell ⟨S.sid, 0, none⟩ (.int .i64 (S.head + 1)) := ⟨_, rfl⟩
  have tY : Turned [S.sid] w Y := by rw [hYe]; exact (Turned.of_below HBX.out).trans (Turned.setCell _) (fun j hj => .inl (by simp only [List.mem_singleton] at hj; simp [hj]))
  have kY : KeepN w Y := by rw [hYe]; exact (KeepN.below HBX.out).trans (KeepN.setCell HHD.out (by decide) _)
  have sY : StAt Y (headS S) := by rw [hYe]; exact HY.out
  have aY : AM w.heap.size w1.heap.size ⟨2, who, nm, ver, nd, sm, n, sz, hold, note⟩ (.slice A nd.length cp) Y := by rw [hYe]; exact HAM.out
  have nY : NeedsAt Y (.slice A nd.length cp) nd := by
    rw [hYe]
    exact needs_turned HNX.out (Turned.setCell (b := S.sid) (o := 0) (.int .i64 (S.head + 1))) (HNS.out _ HHD.out)
  rw [← hYe]
  have B3 : Below Y.heap.size Y Y.drew := (Below.refl _ _).drew
  have HYD := Lib.hid (sY.next B3); have HND := Lib.hid (nY.below B3)
  have HAD := Lib.hid (aY.turned (I := []) (Turned.of_below B3) (fun i hi => by cases hi))
  have TY := Lib.hid tY; have KY := Lib.hid kY; have HB3 := Lib.hid B3
  clear hYe tY kY sY aY nY B3 c0 c1 c2 c3 c4 f0 e0 e1 e2 e3 e4 e5 e6 e7 e8 e9
  go_region_held3 (fun x => x.cell? ⟨w.heap.size, 0, none⟩ = some (.int .u8 2) ∧ x.cell? ⟨w.heap.size, 1, none⟩ = some (.string who) ∧ x.cell? ⟨w.heap.size, 2, none⟩ = some (.string nm) ∧ x.cell? ⟨w.heap.size, 3, none⟩ = some (.string ver) ∧ x.cell? ⟨w.heap.size, 4, none⟩ = some (.slice A nd.length cp) ∧
      x.cell? ⟨w.heap.size, 5, none⟩ = some (.int .u64 sm) ∧ x.cell? ⟨w.heap.size, 6, none⟩ = some (.int .u32 n) ∧ x.cell? ⟨w.heap.size, 7, none⟩ = some (.int .u32 sz) ∧ x.cell? ⟨w.heap.size, 8, none⟩ = some (.string hold) ∧ x.cell? ⟨w.heap.size, 9, none⟩ = some (.string note) ∧ x.cell? ⟨w1.heap.size, 2, none⟩ = some (fnv 39))
    ((first | with_reducible exact HAD.out.all 2 _ rfl | with_reducible exact ham3.all 2 _ rfl))
    ((go_at_call 39; refine (publish_any 2 who nm ver hold note nd sm n sz (.slice A nd.length cp) (headS S) _ HYD.out HND.out (by have := HNM.out; omega)).mono ?_; rintro e w3 ⟨rfl, S', p, I, hres, hst3, ht3, hk3, hI⟩; have ham3 := HAD.out.turned ht3 (fun i hi => fun {_ _} hc => mapOf_no HYD.out (hI i hi) hc)))
  obtain ⟨e0, e1, e2, e3, e4, e5, e6, e7, e8, e9⟩ := evcells ham3.ev
  have HA : Hid (aboutE 2 nm = .returned (.tuple #[.string nm, .bool true])) := Lib.hid rfl
  obtain ⟨hp, hsid, hhead⟩ := hres.pk
  have HST3 := Lib.hid hst3; have HT3 := Lib.hid ht3; have HK3 := Lib.hid hk3; have HRES := Lib.hid hres; have HI := Lib.hid hI; have HP := Lib.hid hp; have HSID := Lib.hid hsid; have HHEAD := Lib.hid hhead
  clear hst3 ht3 hk3 ham3 hres hI hp hsid hhead
  go_wp2_with (go_at_call 45; refine (about_any 2 who nm ver hold note nd sm n sz (.slice A nd.length cp) _ (by decide) (by decide)).mono ?_)
  first | rintro e w4 rfl hb4 | rintro e w4 ⟨rfl, hb4⟩
  rw [HA.out]
  have hst4 := HST3.out.next hb4
  have B5 : Below w4.heap.size w4 w4.drew := (Below.refl _ _).drew
  have hTM : TM S' nm p w4.drew := ⟨hst4.next B5, HP.out⟩
  have hs : S'.sid = S.sid := HSID.out
  have hhd : S'.head = S.head + 1 := HHEAD.out
  have hall := hTM.all
  have htch := touch_at (hst4.next B5) HP.out (S.head + 1)
  have hTM2 : TM (setPack S' nm { p with touched := S.head + 1 }) nm { p with touched := S.head + 1 } _ := ⟨htch, aget_aput _ _ _⟩
  have hall2 := hTM2.all
  have hpk := hst4.pkAt HP.out
  obtain ⟨d0, d1, d2⟩ := hpk.cells
  have fz := Lib.frozen_of_heap hpk.hd 1
  unfold T3 at hall hall2
  rw [hs, hhd] at hall
  have hall3 : (w4.setCell ⟨p.pid, 1, none⟩ (.int .i64 (S.head + 1))).drew.cell? ⟨S.sid, 3, none⟩ = some (.map (some S'.kid)) ∧ (w4.setCell ⟨p.pid, 1, none⟩ (.int .i64 (S.head + 1))).drew.cell? ⟨S.sid, 0, none⟩ = some (.int .i64 (S.head + 1)) ∧ (Instr.lookup 77 (.map (some S'.kid)) (.string nm) false).run Tryz.prog (w4.setCell ⟨p.pid, 1, none⟩ (.int .i64 (S.head + 1))).drew = .ok (ptr p.pid) (w4.setCell ⟨p.pid, 1, none⟩ (.int .i64 (S.head + 1))).drew := by
    have hx := hall2
    rw [show (setPack S' nm { p with touched := S.head + 1 }).sid = S.sid from hs, show (setPack S' nm { p with touched := S.head + 1 }).head = S.head + 1 from hhd] at hx
    exact hx
  have HALL := Lib.hid hall; have HALL3 := Lib.hid hall3; have HTCH := Lib.hid htch; have HPK := Lib.hid hpk; have HB4 := Lib.hid hb4; have HB5 := Lib.hid B5
  clear hall hall2 hall3 htch hpk hb4 B5 hTM hTM2 hst4 hs hhd
  go_wp2
  go_region_held3 (fun x => x.cell? ⟨S.sid, 3, none⟩ = some (.map (some S'.kid)) ∧ x.cell? ⟨S.sid, 0, none⟩ = some (.int .i64 (S.head + 1)) ∧ (Instr.lookup 77 (.map (some S'.kid)) (.string nm) false).run Tryz.prog x = .ok (ptr p.pid) x)
    ((first | with_reducible exact HALL.out | with_reducible exact HALL3.out))
    (fail)
  go_wp2
  go_ret
  have K4 := (HK3.out.trans (KeepN.below HB4.out)).trans (KeepN.below HB5.out)
  have T4 := ((HT3.out).more (Turned.of_below HB4.out)).more (Turned.of_below HB5.out)
  have hpk5 := HPK.out.next HB5.out
  refine ⟨rfl, S', p, I, ?_, HTCH.out, ?_, ((KY.out.trans (KeepN.below HB3.out)).trans K4).trans (KeepN.setCell hpk5.hd (by decide) _), HI.out⟩
  · refine HRES.out.mono ?_
    have h1 := TY.out.size; have h2 := HB3.out.size
    omega
  · have u1 : Turned (S.sid :: p.pid :: I) w Y := TY.out.mono (fun j hj => by simp only [List.mem_singleton] at hj; simp [hj])
    have u2 : Turned (S.sid :: p.pid :: I) w w3 := (u1.more (Turned.of_below HB3.out)).more (HT3.out.mono (fun j hj => by simp [hj]))
    have u3 : Turned (S.sid :: p.pid :: I) w w4.drew := (u2.more (Turned.of_below HB4.out)).more (Turned.of_below HB5.out)
    exact u3.more ((Turned.setCell (w := w4.drew) (b := p.pid) (o := 1) (.int .i64 (S.head + 1))).mono (fun j hj => by simp only [List.mem_singleton] at hj; simp [hj]))
end Go.Proofs.YtggdgjifhikmiaaGreatDoor
