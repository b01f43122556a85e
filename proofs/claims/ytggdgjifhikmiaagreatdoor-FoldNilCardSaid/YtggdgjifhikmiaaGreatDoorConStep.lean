/- What an event makes, on plain data; what fold.Apply answers (of an account, of a publish). No condition of its own. -/
import Derived.Test.YtggdgjifhikmiaaGreatDoorConApply2
import Derived.Test.YtggdgjifhikmiaaGreatDoorConTold2
import Derived.Test.YtggdgjifhikmiaaGreatDoorSpecSpan
set_option linter.unusedVariables false
namespace Go.Proofs.YtggdgjifhikmiaaGreatDoor
open Go.RowKit Yk
structure PRel where
  ver : ByteArray
  by_ : ByteArray
  at_ : Int
  needs : List (ByteArray × ByteArray)
  sum : Int
  n : Int
  size : Int
  yanked : Bool
  note : ByteArray
structure PPk where
  holders : List ByteArray
  touched : Int
  rels : List (ByteArray × PRel)
structure PSt where
  head : Int
  accts : List (ByteArray × Int)
  teams : List (ByteArray × List ByteArray)
  packs : List (ByteArray × PPk)
  squashes : List (ByteArray × ByteArray)
def Rel.data (r : Rel) : PRel := ⟨r.ver, r.by_, r.at_, r.needs, r.sum, r.n, r.size, r.yanked, r.note⟩
def Pk.data (p : Pk) : PPk := ⟨p.holders, p.touched, p.rels.map fun x => (x.1, x.2.data)⟩
def St.data (S : St) : PSt := ⟨S.head, S.accts, S.teams.map fun x => (x.1, x.2.members), S.packs.map fun x => (x.1, x.2.data), S.squashes⟩
def PSt.zero : PSt := ⟨0, [], [], [], []⟩
theorem aget_map {α β : Type} (f : α → β) (k : ByteArray) : ∀ l : List (ByteArray × α), aget k (l.map fun x => (x.1, f x.2)) = (aget k l).map f
  | [] => rfl
  | x :: r => by
    simp only [List.map_cons, aget]
    by_cases h : x.1 = k
    · simp [h]
    · simp [h, aget_map f k r]
theorem aput_map {α β : Type} (f : α → β) (k : ByteArray) (v : α) : ∀ l : List (ByteArray × α), (aput k v l).map (fun x => (x.1, f x.2)) = aput k (f v) (l.map fun x => (x.1, f x.2))
  | [] => rfl
  | x :: r => by
    simp only [List.map_cons, aput]
    by_cases h : x.1 = k
    · simp [h]
    · simp [h, aput_map f k v r]
theorem aput_aput {α : Type} (k : ByteArray) (u v : α) : ∀ l : List (ByteArray × α), aput k v (aput k u l) = aput k v l
  | [] => by simp [aput]
  | x :: r => by
    simp only [aput]
    by_cases h : x.1 = k
    · simp [h, aput]
    · simp [h, aput, aput_aput k u v r]
def badd (x : ByteArray) (l : List ByteArray) : List ByteArray := if hasB x l then l else l ++ [x]
def bdel (x : ByteArray) : List ByteArray → List ByteArray
  | [] => []
  | y :: r => if y = x then r else y :: bdel x r
def someP (X : PSt) (who : ByteArray) : Bool := (aget who X.accts).isSome || (aget who X.teams).isSome
def relP (X : PSt) (n v : ByteArray) : Option PRel := match aget n X.packs with
  | none => none
  | some p => aget v p.rels
def holdP (X : PSt) (n h : ByteArray) : Bool := match aget n X.packs with
  | none => false
  | some p => hasB h p.holders
def memP (X : PSt) (t m : ByteArray) : Bool := match aget t X.teams with
  | none => false
  | some l => hasB m l
def sqOf (n : ByteArray) : ByteArray := mk ((squash (bs n)).getD [])
def likeP (X : PSt) (n : ByteArray) : Bool := match aget (sqOf n) X.squashes with
  | none => true
  | some o => decide (o = n)
def yankedO (o : Option PRel) : Bool := match o with
  | none => false
  | some r => r.yanked
def noteO (o : Option PRel) : ByteArray := match o with
  | none => eB
  | some r => r.note
def fitsP (X : PSt) (e : Ev) : Bool :=
  if e.kind = 1 then !someP X e.who
  else if !(aget e.who X.accts).isSome then false
  else if e.kind = 2 then !(relP X e.nm e.ver).isSome && likeP X e.nm
  else if e.kind = 3 then (relP X e.nm e.ver).isSome && !yankedO (relP X e.nm e.ver)
  else if e.kind = 4 then (relP X e.nm e.ver).isSome && yankedO (relP X e.nm e.ver)
  else if e.kind = 5 then (relP X e.nm e.ver).isSome && !decide (noteO (relP X e.nm e.ver) = e.note)
  else if e.kind = 6 then (aget e.nm X.packs).isSome && (someP X e.hold && !holdP X e.nm e.hold)
  else if e.kind = 7 then holdP X e.nm e.hold
  else if e.kind = 8 then !someP X e.hold
  else if e.kind = 9 then (aget e.hold X.teams).isSome && ((aget e.note X.accts).isSome && !memP X e.hold e.note)
  else memP X e.hold e.note
theorem isSome_map' {α β : Type} (f : α → β) (o : Option α) : (o.map f).isSome = o.isSome := by cases o <;> rfl
theorem relP_data (S : St) (n v : ByteArray) : relP S.data n v = (aget n S.packs).bind fun p => (aget v p.rels).map Rel.data := by
  unfold relP St.data
  rw [aget_map]
  cases aget n S.packs with
  | none => rfl
  | some p => simp only [Option.map_some, Option.bind_some, Pk.data]; rw [aget_map]
theorem relIs_data (S : St) (n v : ByteArray) : relIs S n v = (relP S.data n v).isSome := by
  rw [relP_data]
  unfold relIs
  cases aget n S.packs with
  | none => rfl
  | some p => simp [isSome_map']
theorem relY_data (S : St) (n v : ByteArray) : (relOf S n v).yanked = yankedO (relP S.data n v) := by
  rw [relP_data]
  unfold relOf
  cases aget n S.packs with
  | none => rfl
  | some p =>
    show ((aget v p.rels).getD zeroRel).yanked = yankedO ((aget v p.rels).map Rel.data)
    cases aget v p.rels with
    | none => rfl
    | some r => rfl
theorem relN_data (S : St) (n v : ByteArray) : (relOf S n v).note = noteO (relP S.data n v) := by
  rw [relP_data]
  unfold relOf
  cases aget n S.packs with
  | none => rfl
  | some p =>
    show ((aget v p.rels).getD zeroRel).note = noteO ((aget v p.rels).map Rel.data)
    cases aget v p.rels with
    | none => rfl
    | some r => rfl
theorem some_data (S : St) (w : ByteArray) : someS S w = someP S.data w := by
  unfold someS someP St.data
  rw [aget_map, isSome_map']
theorem hold_data (S : St) (n h : ByteArray) : holdS S n h = holdP S.data n h := by
  unfold holdS holdP St.data
  rw [aget_map]
  cases aget n S.packs <;> rfl
theorem mem_data (S : St) (n h : ByteArray) : memS S n h = memP S.data n h := by
  unfold memS memP St.data
  rw [aget_map]
  cases aget n S.teams <;> rfl
theorem fits_data (S : St) (e : Ev) : fitsS S e = fitsP S.data e := by
  unfold fitsS fitsP
  rw [some_data, some_data, relIs_data, relY_data, relN_data, hold_data, mem_data]
  have e1 : (aget e.nm S.packs).isSome = (aget e.nm S.data.packs).isSome := by unfold St.data; rw [aget_map, isSome_map']
  have e2 : (aget e.hold S.teams).isSome = (aget e.hold S.data.teams).isSome := by unfold St.data; rw [aget_map, isSome_map']
  have e3 : likeOk S e.nm = likeP S.data e.nm := rfl
  have e4 : (aget e.who S.accts).isSome = (aget e.who S.data.accts).isSome := rfl
  have e5 : (aget e.note S.accts).isSome = (aget e.note S.data.accts).isSome := rfl
  rw [e1, e2, e3, e4, e5]
/-- may needs be? -/
def needsB (l : List (ByteArray × ByteArray)) : Bool :=
  decide (l.length ≤ 64) && l.all (fun x => nameIs (bs x.1) && spanIs (bs x.2)) && (l.zip (l.drop 1)).all (fun p => blt (bs p.1.1) (bs p.2.1))
def codeP (X : PSt) (e : Ev) : Int := if !evMayB e (needsB e.needs) then 90 else if fitsP X e then 0 else 100
theorem code_data (S : St) (e : Ev) : fitsCode S e (needsB e.needs) = codeP S.data e := by unfold fitsCode codeP; rw [fits_data]
def pubRel (h : Int) (e : Ev) : PRel := ⟨e.ver, e.who, h, e.needs, e.sum, e.n, e.size, false, eB⟩
def packP (X : PSt) (e : Ev) : PPk := (aget e.nm X.packs).getD ⟨[e.who], 0, []⟩
def turnRel (f : PRel → PRel) (v : ByteArray) (p : PPk) : PPk := match aget v p.rels with
  | none => p
  | some r => { p with rels := aput v (f r) p.rels }
def onPack (X : PSt) (e : Ev) (f : PPk → PPk) : PSt := { X with packs := aput e.nm { f (packP X e) with touched := X.head } X.packs }
/-- what an event that fits makes; the head has gone up -/
def makeH (X : PSt) (e : Ev) : PSt :=
  if e.kind = 1 then { X with accts := aput e.who e.sum X.accts }
  else if e.kind = 2 then
    let Y := if (aget e.nm X.packs).isSome then X else { X with squashes := aput (sqOf e.nm) e.nm X.squashes }
    onPack Y e fun p => { p with rels := aput e.ver (pubRel X.head e) p.rels }
  else if e.kind = 3 then onPack X e (turnRel (fun r => { r with yanked := true }) e.ver)
  else if e.kind = 4 then onPack X e (turnRel (fun r => { r with yanked := false }) e.ver)
  else if e.kind = 5 then onPack X e (turnRel (fun r => { r with note := e.note }) e.ver)
  else if e.kind = 6 then onPack X e fun p => { p with holders := badd e.hold p.holders }
  else if e.kind = 7 then onPack X e fun p => { p with holders := bdel e.hold p.holders }
  else if e.kind = 8 then { X with teams := aput e.hold [e.who] X.teams }
  else if e.kind = 9 then { X with teams := aput e.hold (badd e.note ((aget e.hold X.teams).getD [])) X.teams }
  else { X with teams := aput e.hold (bdel e.note ((aget e.hold X.teams).getD [])) X.teams }
def makeP (X : PSt) (e : Ev) : PSt := makeH { X with head := X.head + 1 } e
/-- what lies in memory but states' heads, packs and maps stays -/
def TK (w w' : World) : Prop := ∀ (b : Nat) (cs : Array Value) (T : TypeId) (fz : Nat × Nat), w.heap[b]? = some (.cells cs T fz) → T ≠ 80 → T ≠ 94 → w'.heap[b]? = w.heap[b]?
theorem TK.below {w w' : World} (h : Below w.heap.size w w') : TK w w' := fun b cs T fz hb _ _ => h.block b (Array.getElem?_eq_some_iff.1 hb).1
theorem TK.refl (w : World) : TK w w := fun _ _ _ _ _ _ _ => rfl
theorem TK.trans {a b c : World} (h : TK a b) (k : TK b c) : TK a c := fun i cs T fz hi h1 h2 => (k i cs T fz ((h i cs T fz hi h1 h2).trans hi) h1 h2).trans (h i cs T fz hi h1 h2)
theorem TK.keepN {w w' : World} (h : TK w w') (hs : w.heap.size ≤ w'.heap.size) : KeepN w w' := ⟨hs, fun b cs fz hb => h b cs _ fz hb (by decide) (by decide)⟩
/-- the kinds of a state's blocks -/
theorem StAt.kind {w : World} {S : St} (h : StAt w S) {i : Nat} (hi : i ∈ S.ids) : (∃ M, MapIs w i M) ∨ (∃ cs fz, w.heap[i]? = some (.cells cs 80 fz)) ∨ (∃ cs fz, w.heap[i]? = some (.cells cs 94 fz)) := by
  unfold St.ids at hi
  simp only [List.mem_append, List.mem_cons, List.not_mem_nil, or_false, List.mem_map, List.mem_flatMap] at hi
  rcases hi with ((rfl | rfl | rfl | rfl | rfl) | ⟨x, hx, rfl⟩) | ⟨x, hx, hi⟩
  · exact .inr (.inl ⟨_, _, h.hd⟩)
  · exact .inl ⟨_, h.ac⟩
  · exact .inl ⟨_, h.te⟩
  · exact .inl ⟨_, h.pk⟩
  · exact .inl ⟨_, h.sq⟩
  · exact .inl ⟨_, h.tms x hx⟩
  · have hp := h.pks x hx
    unfold Pk.ids at hi
    simp only [List.mem_cons, List.not_mem_nil, or_false] at hi
    rcases hi with rfl | rfl | rfl
    · exact .inr (.inr ⟨_, _, hp.hd⟩)
    · exact .inl ⟨_, hp.ho⟩
    · exact .inl ⟨_, hp.re⟩
theorem StAt.tk {w w' : World} {S : St} {I : List Nat} (h : StAt w S) (ht : Turned I w w') (hI : ∀ i ∈ I, i ∈ S.ids) : TK w w' := by
  intro b cs T fz hb h1 h2
  refine ht.block b (Array.getElem?_eq_some_iff.1 hb).1 (fun q => ?_)
  rcases h.kind (hI b q) with ⟨M, es, c, hm, _⟩ | ⟨cs', fz', hm⟩ | ⟨cs', fz', hm⟩
  · rw [hb] at hm; cases hm
  · rw [hb] at hm; cases hm; exact h1 rfl
  · rw [hb] at hm; cases hm; exact h2 rfl
/-- what Apply answers -/
def ApplyPost (S : St) (e : Ev) (W : World) (en : Ending) (W' : World) : Prop :=
  ∃ v, en = .returned v ∧ ((codeP S.data e ≠ 0 ∧ ErrIs W' v (codeP S.data e) (wordB e.kind) (-1) ∧ Below W.heap.size W W') ∨
    (codeP S.data e = 0 ∧ v = .nilIface ∧ ∃ S' I, S'.data = makeP S.data e ∧ S'.sid = S.sid ∧ (∀ i ∈ S'.ids, i ∈ S.ids ∨ W.heap.size ≤ i) ∧ StAt W' S' ∧ Turned I W W' ∧ ∀ i ∈ I, i ∈ S.ids))
theorem pack_ids {S : St} {n : ByteArray} {p : Pk} (h : aget n S.packs = some p) : ∀ i ∈ p.ids, i ∈ S.ids := by
  intro i hi
  obtain ⟨x, hx, _, hx2⟩ := aget_mem h
  unfold St.ids
  exact List.mem_append_right _ (List.mem_flatMap.2 ⟨x, hx, by rw [hx2]; exact hi⟩)
theorem setPack_ids {S : St} {n : ByteArray} {q : Pk} : ∀ i ∈ (setPack S n q).ids, i ∈ S.ids ∨ i ∈ q.ids := by
  intro i hi
  unfold St.ids at hi ⊢
  rcases List.mem_append.1 hi with hi | hi
  · exact .inl (List.mem_append_left _ hi)
  · obtain ⟨x, hx, hi⟩ := List.mem_flatMap.1 hi
    rcases aput_mem hx with rfl | hx
    · exact .inr hi
    · exact .inl (List.mem_append_right _ (List.mem_flatMap.2 ⟨x, hx, hi⟩))
theorem setPack_data (S : St) (n : ByteArray) (q : Pk) : (setPack S n q).data = { S.data with packs := aput n q.data S.data.packs } := by
  unfold setPack St.data
  simp only [aput_map]
theorem Pk.rels_data (p : Pk) (v : ByteArray) (r : Rel) : ({ p with rels := aput v r p.rels } : Pk).data = { p.data with rels := aput v r.data p.data.rels } := by
  unfold Pk.data
  simp only [aput_map]
theorem apply1_step (who nm ver hold note : ByteArray) (nd : List (ByteArray × ByteArray)) (sm n sz : Int) (nv : Value) (S : St) (w : World)
    (hb : EvB ⟨1, who, nm, ver, nd, sm, n, sz, hold, note⟩) (hg : Glob w) (h : StAt w S) (hn : NeedsAt w nv nd) (hc : codeP S.data ⟨1, who, nm, ver, nd, sm, n, sz, hold, note⟩ = 0) (hh : 0 ≤ S.head ∧ S.head ≤ 4611686018427387904) :
    Calls Tryz.prog 10 #[ptr S.sid, .agg (evCells ⟨1, who, nm, ver, nd, sm, n, sz, hold, note⟩ nv)] w (ApplyPost S ⟨1, who, nm, ver, nd, sm, n, sz, hold, note⟩ w) := by
  have hc' := hc
  rw [← code_data] at hc
  refine (apply1_any who nm ver hold note nd sm n sz nv _ S w hb hg h hn hc hh).mono ?_
  rintro e w' ⟨rfl, hst, ht, hk⟩
  refine ⟨_, rfl, .inr ⟨hc', rfl, accountS (headS S) ⟨1, who, nm, ver, nd, sm, n, sz, hold, note⟩, [S.sid, S.aid], rfl, rfl, fun i hi => .inl hi, hst, ht, fun i hi => ?_⟩⟩
  simp only [List.mem_cons, List.not_mem_nil, or_false] at hi
  unfold St.ids
  rcases hi with rfl | rfl <;> simp
theorem apply2_step (who nm ver hold note : ByteArray) (nd : List (ByteArray × ByteArray)) (sm n sz : Int) (nv : Value) (S : St) (w : World)
    (hb : EvB ⟨2, who, nm, ver, nd, sm, n, sz, hold, note⟩) (hg : Glob w) (h : StAt w S) (hn : NeedsAt w nv nd) (hc : codeP S.data ⟨2, who, nm, ver, nd, sm, n, sz, hold, note⟩ = 0) (hh : 0 ≤ S.head ∧ S.head ≤ 4611686018427387904) (HN : NeedsCon nv nd (needsB nd)) :
    Calls Tryz.prog 10 #[ptr S.sid, .agg (evCells ⟨2, who, nm, ver, nd, sm, n, sz, hold, note⟩ nv)] w (ApplyPost S ⟨2, who, nm, ver, nd, sm, n, sz, hold, note⟩ w) := by
  have hc' := hc
  rw [← code_data] at hc
  refine (apply2_any who nm ver hold note nd sm n sz nv _ S w hb hg h hn hc hh HN).mono ?_
  rintro e w' ⟨rfl, S', p, I, hpr, hst, ht, hk, hI⟩
  have base : ∀ i ∈ [S.sid, S.aid, S.tid, S.kid, S.qid], i ∈ S.ids := fun i hi => by unfold St.ids; exact List.mem_append_left _ (List.mem_append_left _ hi)
  have hmap : ∀ i ∈ I, i ∈ S.ids := by
    intro i hi
    rcases hI i hi with rfl | rfl | ⟨x, hx, rfl⟩
    · exact base _ (by simp [headS])
    · exact base _ (by simp [headS])
    · unfold St.ids
      exact List.mem_append_right _ (List.mem_flatMap.2 ⟨x, hx, by simp [Pk.ids]⟩)
  rcases hpr with ⟨p0, nv', h1, rfl, rfl⟩ | ⟨p0, nv', h1, ⟨h2, h3, h4, h5⟩, rfl, rfl⟩
  · have h1' : aget nm S.packs = some p0 := h1
    refine ⟨_, rfl, .inr ⟨hc', rfl, _, _, ?_, ?_, fun i hi => ?_, hst, ht, fun i hi => ?_⟩⟩
    rotate_left
    · rfl
    rotate_right
    · rw [setPack_data, setPack_data]
      have e1 : aget nm S.data.packs = some p0.data := by unfold St.data; rw [aget_map, h1']; rfl
      unfold makeP makeH onPack packP
      simp only [e1, Option.isSome_some, if_true, Option.getD_some, aput_aput]
      simp only [show ¬ ((2 : Int) = 1) by omega, if_false]
      unfold Pk.data
      simp only [aput_map]
      rfl
    · rcases setPack_ids i hi with hi | hi
      · rcases setPack_ids i hi with hi | hi
        · exact .inl hi
        · exact .inl (pack_ids h1' i hi)
      · exact .inl (pack_ids h1' i hi)
    · rcases List.mem_cons.1 hi with rfl | hi
      · exact base _ (by simp)
      · rcases List.mem_cons.1 hi with rfl | hi
        · exact pack_ids h1' _ (by simp [Pk.ids])
        · exact hmap i hi
  · have h1' : aget nm S.packs = none := h1
    refine ⟨_, rfl, .inr ⟨hc', rfl, _, S.sid :: I, ?_, ?_, fun i hi => ?_, hst, ?_, fun i hi => ?_⟩⟩
    rotate_left
    · rfl
    rotate_right
    · rw [setPack_data, setPack_data]
      have e1 : aget nm S.data.packs = none := by unfold St.data; rw [aget_map, h1']; rfl
      have e2 : (addPack (headS S) nm p0).data = { (headS S).data with packs := aput nm p0.data S.data.packs, squashes := aput (sqOf nm) nm S.squashes } := by
        unfold addPack withSquash withPack St.data
        simp only [aput_map]; rfl
      rw [e2]
      unfold makeP makeH onPack packP
      simp only [e1, Option.isSome_none, Bool.false_eq_true, if_false, Option.getD_none, aput_aput]
      simp only [show ¬ ((2 : Int) = 1) by omega, if_false, if_true]
      unfold Pk.data
      simp only [aput_map, h2, h4, List.map_nil]
      rfl
    · have hadd : ∀ i ∈ (addPack (headS S) nm p0).ids, i ∈ S.ids ∨ w.heap.size ≤ i := by
        intro i hi
        have : (addPack (headS S) nm p0).ids = (setPack S nm p0).ids := rfl
        rw [this] at hi
        rcases setPack_ids i hi with hi | hi
        · exact .inl hi
        · exact .inr (h5 i hi)
      rcases setPack_ids i hi with hi | hi
      · rcases setPack_ids i hi with hi | hi
        · exact hadd i hi
        · exact .inr (h5 i hi)
      · exact .inr (h5 i hi)
    · refine ⟨ht.os, ht.tape, ht.output, ht.size, fun k hk hn => ht.block k hk (fun q => hn ?_)⟩
      rcases List.mem_cons.1 q with rfl | q
      · exact .head _
      · rcases List.mem_cons.1 q with q | q
        · have h6 := h5 p0.pid (by simp [Pk.ids])
          have h7 : k = p0.pid := q
          omega
        · exact .tail _ q
    · rcases List.mem_cons.1 hi with rfl | hi
      · exact base _ (by simp)
      · exact hmap i hi
theorem applyErr_step (k : Int) (who nm ver hold note : ByteArray) (nd : List (ByteArray × ByteArray)) (sm n sz : Int) (nv : Value) (S : St) (w : World)
    (hb : EvB ⟨k, who, nm, ver, nd, sm, n, sz, hold, note⟩) (hg : Glob w) (h : StAt w S) (hn : NeedsAt w nv nd) (HN : k = 2 → NeedsCon nv nd (needsB nd)) (hc : codeP S.data ⟨k, who, nm, ver, nd, sm, n, sz, hold, note⟩ ≠ 0) :
    Calls Tryz.prog 10 #[ptr S.sid, .agg (evCells ⟨k, who, nm, ver, nd, sm, n, sz, hold, note⟩ nv)] w (ApplyPost S ⟨k, who, nm, ver, nd, sm, n, sz, hold, note⟩ w) := by
  have hc' := hc
  rw [← code_data] at hc
  refine (applyErr_any k who nm ver hold note nd sm n sz nv _ S w hb hg h hn HN hc).mono ?_
  rintro e w' ⟨v, rfl, he, hb2⟩
  rw [code_data] at he
  exact ⟨_, rfl, .inl ⟨hc', he, hb2⟩⟩
end Go.Proofs.YtggdgjifhikmiaaGreatDoor
