/- Contract of fold.fits. Conditions: the kind is one of the ten; bounds of the texts. -/
import Derived.Test.YtggdgjifhikmiaaGreatDoorConSt4
import Derived.Deep.RegionHeld3
set_option linter.unusedVariables false
namespace Go.Proofs.YtggdgjifhikmiaaGreatDoor
open Go.RowKit Yk
def holdS (S : St) (n h : ByteArray) : Bool := match aget n S.packs with
  | none => false
  | some p => hasB h p.holders
def memS (S : St) (t m : ByteArray) : Bool := match aget t S.teams with
  | none => false
  | some x => hasB m x.members
def likeOk (S : St) (n : ByteArray) : Bool := match aget (mk ((squash (bs n)).getD [])) S.squashes with
  | none => true
  | some o => decide (o = n)
def fitsS (S : St) (e : Ev) : Bool :=
  if e.kind = 1 then !someS S e.who
  else if !(aget e.who S.accts).isSome then false
  else if e.kind = 2 then !relIs S e.nm e.ver && likeOk S e.nm
  else if e.kind = 3 then relIs S e.nm e.ver && !(relOf S e.nm e.ver).yanked
  else if e.kind = 4 then relIs S e.nm e.ver && (relOf S e.nm e.ver).yanked
  else if e.kind = 5 then relIs S e.nm e.ver && !decide ((relOf S e.nm e.ver).note = e.note)
  else if e.kind = 6 then (aget e.nm S.packs).isSome && (someS S e.hold && !holdS S e.nm e.hold)
  else if e.kind = 7 then holdS S e.nm e.hold
  else if e.kind = 8 then !someS S e.hold
  else if e.kind = 9 then (aget e.hold S.teams).isSome && ((aget e.note S.accts).isSome && !memS S e.hold e.note)
  else memS S e.hold e.note
theorem StAt.pkAt {w : World} {S : St} (h : StAt w S) {n : ByteArray} {p : Pk} (hp : aget n S.packs = some p) : PkAt w p := by
  obtain ⟨x, hx, h1, h2⟩ := aget_mem hp
  have := h.pks x hx
  rwa [h2] at this
theorem StAt.tmAt {w : World} {S : St} (h : StAt w S) {n : ByteArray} {t : Tm} (hp : aget n S.teams = some t) : MapIs w t.tid (trues t.members) := by
  obtain ⟨x, hx, h1, h2⟩ := aget_mem hp
  have := h.tms x hx
  rwa [h2] at this
theorem StAt.drew {w : World} {S : St} (h : StAt w S) (n : Nat) : StAt (w.drewN n) S := h.next (below_drewN'' w n)
/-- what the region of a publish reads -/
structure FM (S : St) (b : Nat) (e : Ev) (nv : Value) (q : ByteArray) (x : World) : Prop where
  st : StAt x S
  ev : x.heap[b]? = some (.cells (evCells e nv) 36 (0, 0))
theorem FM.next {S : St} {b : Nat} {e : Ev} {nv : Value} {q : ByteArray} {x y : World} (hb : Below x.heap.size x y) (h : FM S b e nv q x) : FM S b e nv q y := ⟨h.st.next hb, (hb.block _ (Array.getElem?_eq_some_iff.1 h.ev).1).trans h.ev⟩
theorem FM.drew' {S : St} {b : Nat} {e : Ev} {nv : Value} {q : ByteArray} {x : World} (h : FM S b e nv q x) : FM S b e nv q x.drew := h.next ((Below.refl _ _).drew)
theorem FM.drewN {S : St} {b : Nat} {e : Ev} {nv : Value} {q : ByteArray} {x : World} (h : FM S b e nv q x) (n : Nat) : FM S b e nv q (x.drewN n) := h.next (below_drewN'' x n)
theorem FM.all {S : St} {b : Nat} {e : Ev} {nv : Value} {q : ByteArray} {x : World} {bo : Bool} {xo : ByteArray} (hbo : (aget q S.squashes).isSome = bo) (hxo : (aget q S.squashes).getD eB = xo) (h : FM S b e nv q x) : x.cell? ⟨S.sid, 4, none⟩ = some (.map (some S.qid)) ∧ x.cell? ⟨b, 2, none⟩ = some (.string e.nm) ∧ (Instr.lookup 78 (.map (some S.qid)) (.string q) true).run Tryz.prog x = .ok (.tuple #[.string xo, .bool bo]) x ∧ FM S b e nv q x := by
  subst hbo; subst hxo
  obtain ⟨-, -, -, -, c4⟩ := h.st.cells
  obtain ⟨-, -, e2, -⟩ := evcells h.ev
  exact ⟨c4, e2, lkQ h.st q, h⟩
end Go.Proofs.YtggdgjifhikmiaaGreatDoor
