/- The state of fold, as it lies in memory; contracts of fold.New, Head, somebody, pack, squash. No condition of its own. -/
import Derived.Test.YtggdgjifhikmiaaGreatDoorMapKit
import Derived.Test.YtggdgjifhikmiaaGreatDoorConEv5
import Derived.Test.YtggdgjifhikmiaaGreatDoorFlt
set_option linter.unusedVariables false
namespace Go.Proofs.YtggdgjifhikmiaaGreatDoor
open Go.RowKit Yk
/-- needs in a block of their kind -/
def NeedsK (w : World) (v : Value) (xs : List (ByteArray × ByteArray)) : Prop :=
  NeedsAt w v xs ∧ ∀ a n c, v = .slice (some a) n c → ∃ (cs : Array Value) (fz : Nat × Nat), w.heap[a.block]? = some (Obj.cells cs 47 fz)
/-- all blocks of needs are as they were -/
def KeepN (w w' : World) : Prop := w.heap.size ≤ w'.heap.size ∧ ∀ (b : Nat) (cs : Array Value) (fz : Nat × Nat), w.heap[b]? = some (Obj.cells cs 47 fz) → w'.heap[b]? = w.heap[b]?
theorem KeepN.refl (w : World) : KeepN w w := ⟨Nat.le_refl _, fun _ _ _ _ => rfl⟩
theorem KeepN.trans {a b c : World} (h : KeepN a b) (k : KeepN b c) : KeepN a c :=
  ⟨Nat.le_trans h.1 k.1, fun i cs fz hi => (k.2 i cs fz ((h.2 i cs fz hi).trans hi)).trans (h.2 i cs fz hi)⟩
theorem KeepN.below {w w' : World} (h : Below w.heap.size w w') : KeepN w w' := ⟨h.size, fun b cs fz hb => h.block b (Array.getElem?_eq_some_iff.1 hb).1⟩
theorem NeedsK.keep {w w' : World} {v : Value} {xs : List (ByteArray × ByteArray)} (h : NeedsK w v xs) (k : KeepN w w') : NeedsK w' v xs := by
  obtain ⟨⟨A, c, rfl, hm, hx, ha⟩, hk⟩ := h
  refine ⟨⟨A, c, rfl, hm, hx, fun h0 => ?_⟩, fun a n c' e => ?_⟩
  · obtain ⟨b, off, rfl, hlt, hc⟩ := ha h0
    obtain ⟨cs, fz, hb⟩ := hk _ _ _ rfl
    exact ⟨b, off, rfl, Nat.lt_of_lt_of_le hlt k.1, fun j hj => by rw [cell_block (k.2 _ _ _ hb), cell_block (k.2 _ _ _ hb)]; exact hc j hj⟩
  · obtain ⟨cs, fz, hb⟩ := hk _ _ _ e
    exact ⟨cs, fz, (k.2 _ _ _ hb).trans hb⟩
theorem NeedsK.nil (w : World) : NeedsK w (.slice none 0 0) [] := ⟨NeedsAt.nil w, fun a n c e => by cases e⟩
/-- a cell of a block of another kind is written -/
theorem KeepN.setCell {w : World} {b o : Nat} {cs : Array Value} {T : TypeId} {fz : Nat × Nat} (h : w.heap[b]? = some (.cells cs T fz)) (hT : T ≠ 47) (u : Value) : KeepN w (w.setCell ⟨b, o, none⟩ u) := by
  refine ⟨by simp [World.setCell], fun i cs' fz' hi => heap_setCell_other u ?_⟩
  intro e; subst e
  rw [h] at hi; cases hi; exact hT rfl
/-- a map is written -/
theorem KeepN.setBlk {w : World} {b : Nat} {o o' : Obj} (h : w.heap[b]? = some o) (ho : ∀ cs fz, o ≠ .cells cs 47 fz) : KeepN w (setBlk w b o') := by
  refine ⟨by simp, fun i cs' fz' hi => setBlk_other ?_⟩
  intro e; subst e
  rw [h] at hi; cases hi; exact ho _ _ rfl
structure Rel where
  ver : ByteArray
  by_ : ByteArray
  at_ : Int
  nv : Value
  needs : List (ByteArray × ByteArray)
  sum : Int
  n : Int
  size : Int
  yanked : Bool
  note : ByteArray
abbrev relCells (r : Rel) : Array Value := #[.string r.ver, .string r.by_, .int .i64 r.at_, r.nv, .int .u64 r.sum, .int .u32 r.n, .int .u32 r.size, .bool r.yanked, .string r.note]
structure Pk where
  pid : Nat
  hid : Nat
  rid : Nat
  holders : List ByteArray
  touched : Int
  rels : List (ByteArray × Rel)
structure Tm where
  tid : Nat
  members : List ByteArray
structure St where
  sid : Nat
  aid : Nat
  tid : Nat
  kid : Nat
  qid : Nat
  head : Int
  accts : List (ByteArray × Int)
  teams : List (ByteArray × Tm)
  packs : List (ByteArray × Pk)
  squashes : List (ByteArray × ByteArray)
abbrev stCells (S : St) : Array Value := #[.int .i64 S.head, .map (some S.aid), .map (some S.tid), .map (some S.kid), .map (some S.qid)]
abbrev pkCells (p : Pk) : Array Value := #[.map (some p.hid), .int .i64 p.touched, .map (some p.rid)]
def trues (l : List ByteArray) : Ents := l.map (fun x => (x, .bool true))
def relEnts (l : List (ByteArray × Rel)) : Ents := l.map (fun x => (x.1, .agg (relCells x.2)))
def St.aE (S : St) : Ents := S.accts.map (fun x => (x.1, .int .u64 x.2))
def St.tE (S : St) : Ents := S.teams.map (fun x => (x.1, .map (some x.2.tid)))
def St.kE (S : St) : Ents := S.packs.map (fun x => (x.1, .pointer (some ⟨x.2.pid, 0, none⟩)))
def St.qE (S : St) : Ents := S.squashes.map (fun x => (x.1, .string x.2))
structure PkAt (w : World) (p : Pk) : Prop where
  hd : w.heap[p.pid]? = some (.cells (pkCells p) 94 (0, 0))
  ho : MapIs w p.hid (trues p.holders)
  re : MapIs w p.rid (relEnts p.rels)
  nd : ∀ x ∈ p.rels, NeedsK w x.2.nv x.2.needs
def Pk.ids (p : Pk) : List Nat := [p.pid, p.hid, p.rid]
def St.ids (S : St) : List Nat := [S.sid, S.aid, S.tid, S.kid, S.qid] ++ S.teams.map (fun x => x.2.tid) ++ S.packs.flatMap (fun x => x.2.ids)
structure StAt (w : World) (S : St) : Prop where
  hd : w.heap[S.sid]? = some (.cells (stCells S) 80 (0, 0))
  ac : MapIs w S.aid S.aE
  te : MapIs w S.tid S.tE
  pk : MapIs w S.kid S.kE
  sq : MapIs w S.qid S.qE
  tms : ∀ x ∈ S.teams, MapIs w x.2.tid (trues x.2.members)
  pks : ∀ x ∈ S.packs, PkAt w x.2
  nd : S.ids.Nodup
/-- the cells of a state's head -/
theorem StAt.cells {w : World} {S : St} (h : StAt w S) : w.cell? ⟨S.sid, 0, none⟩ = some (.int .i64 S.head) ∧ w.cell? ⟨S.sid, 1, none⟩ = some (.map (some S.aid)) ∧ w.cell? ⟨S.sid, 2, none⟩ = some (.map (some S.tid)) ∧ w.cell? ⟨S.sid, 3, none⟩ = some (.map (some S.kid)) ∧ w.cell? ⟨S.sid, 4, none⟩ = some (.map (some S.qid)) := by
  have := cells_of_block h.hd
  refine ⟨this 0, this 1, this 2, this 3, this 4⟩
theorem PkAt.cells {w : World} {p : Pk} (h : PkAt w p) : w.cell? ⟨p.pid, 0, none⟩ = some (.map (some p.hid)) ∧ w.cell? ⟨p.pid, 1, none⟩ = some (.int .i64 p.touched) ∧ w.cell? ⟨p.pid, 2, none⟩ = some (.map (some p.rid)) := by
  have := cells_of_block h.hd
  refine ⟨this 0, this 1, this 2⟩
/-- a state is as it was where its blocks are, and those that its needs name -/
theorem NeedsAt.below' {w w' : World} {v : Value} {l : List (ByteArray × ByteArray)} {B : Nat} (h : NeedsAt w v l) (hb : Below w.heap.size w w') : NeedsAt w' v l := h.below hb
theorem PkAt.next {w w' : World} {p : Pk} (h : PkAt w p) (hb : Below w.heap.size w w') : PkAt w' p where
  hd := (hb.block _ (Array.getElem?_eq_some_iff.1 h.hd).1).trans h.hd
  ho := h.ho.block (hb.block _ h.ho.lt)
  re := h.re.block (hb.block _ h.re.lt)
  nd := fun x hx => (h.nd x hx).keep (KeepN.below hb)
theorem StAt.next {w w' : World} {S : St} (h : StAt w S) (hb : Below w.heap.size w w') : StAt w' S where
  hd := (hb.block _ (Array.getElem?_eq_some_iff.1 h.hd).1).trans h.hd
  ac := h.ac.block (hb.block _ h.ac.lt)
  te := h.te.block (hb.block _ h.te.lt)
  pk := h.pk.block (hb.block _ h.pk.lt)
  sq := h.sq.block (hb.block _ h.sq.lt)
  tms := fun x hx => (h.tms x hx).block (hb.block _ (h.tms x hx).lt)
  pks := fun x hx => (h.pks x hx).next hb
  nd := h.nd
theorem u75 : Tryz.prog.underlying 75 = some (.map 9 33) := Tryz.underlying75
def aget {α : Type} (k : ByteArray) : List (ByteArray × α) → Option α
  | [] => none
  | x :: r => if x.1 = k then some x.2 else aget k r
theorem mget_map {α : Type} (f : α → Value) (k : ByteArray) : ∀ l : List (ByteArray × α), mget k (l.map fun x => (x.1, f x.2)) = (aget k l).map f
  | [] => rfl
  | x :: r => by
    simp only [List.map_cons, mget, aget]
    by_cases h : x.1 = k
    · simp [h]
    · simp [h, mget_map f k r]
def hasB (k : ByteArray) : List ByteArray → Bool
  | [] => false
  | x :: r => if x = k then true else hasB k r
theorem mget_trues (k : ByteArray) : ∀ l : List ByteArray, mget k (trues l) = if hasB k l then some (.bool true) else none
  | [] => rfl
  | x :: r => by
    have := mget_trues k r
    simp only [trues, List.map_cons, mget, hasB] at this ⊢
    by_cases h : x = k
    · simp [h]
    · simp [h, this]
theorem aget_mem {α : Type} {k : ByteArray} {v : α} : ∀ {l : List (ByteArray × α)}, aget k l = some v → ∃ x ∈ l, x.1 = k ∧ x.2 = v
  | [], h => by cases h
  | x :: r, h => by
    unfold aget at h
    by_cases e : x.1 = k
    · rw [if_pos e] at h; cases h; exact ⟨x, .head _, e, rfl⟩
    · rw [if_neg e] at h
      obtain ⟨y, hy, h1, h2⟩ := aget_mem h
      exact ⟨y, .tail _ hy, h1, h2⟩
/-- a new state -/
def newSt (n : Nat) : St := { sid := n + 4, aid := n, tid := n + 1, kid := n + 2, qid := n + 3, head := 0, accts := [], teams := [], packs := [], squashes := [] }
theorem hp_new (w : World) (o : Obj) (i : Nat) (h : i = w.heap.size) : (w.alloc o).heap[i]? = some o := by
  subst h; exact heap_alloc_new w o
theorem hp_old (w : World) (o : Obj) (i : Nat) (h : i < w.heap.size) : (w.alloc o).heap[i]? = w.heap[i]? := Below.heap_alloc w o i h
def allocs (w : World) : List Obj → World
  | [] => w
  | o :: r => allocs (w.alloc o) r
theorem allocs_old : ∀ (l : List Obj) (w : World) (i : Nat), i < w.heap.size → (allocs w l).heap[i]? = w.heap[i]?
  | [], _, _, _ => rfl
  | o :: r, w, i, h => (allocs_old r (w.alloc o) i (by simp; omega)).trans (hp_old w o i h)
theorem allocs_at : ∀ (l : List Obj) (w : World) (i : Nat) (o : Obj), l[i]? = some o → (allocs w l).heap[w.heap.size + i]? = some o
  | [], _, _, _, h => by simp at h
  | x :: r, w, 0, o, h => by
    simp at h; subst h
    exact (allocs_old r (w.alloc x) _ (by simp)).trans (hp_new w x _ rfl)
  | x :: r, w, i + 1, o, h => by
    have := allocs_at r (w.alloc x) i o (by simpa using h)
    rw [← this]
    simp only [allocs]
    congr 1
    simp; omega
theorem allocs_below : ∀ (l : List Obj) (w : World), Below w.heap.size w (allocs w l)
  | [], w => Below.refl _ _
  | o :: r, w => bseq ((Below.refl _ _).alloc (Nat.le_refl _) o) (allocs_below r (w.alloc o))
theorem mapIs_empty {w : World} {b : Nat} (h : w.heap[b]? = some (.map #[] 0)) : MapIs w b [] := ⟨#[], 0, h, MapKept.stamped_empty 0, rfl⟩
set_option maxHeartbeats 1000000 in
theorem new_any (w : World) : Calls Tryz.prog 6 #[] w fun e w' => e = .returned (ptr (newSt w.heap.size).sid) ∧ StAt w' (newSt w.heap.size) ∧ Below w.heap.size w w' := by
  have hmm := @run_makeMap Tryz.prog
  go_enter Tryz.func6, Tryz.ntmps6
  go_wp2
  go_ret
  have h := allocs_at [.map #[] 0, .map #[] 0, .map #[] 0, .map #[] 0, .cells (stCells (newSt w.heap.size)) 80] w
  exact ⟨rfl, ⟨h 4 _ rfl, mapIs_empty (h 0 _ rfl), mapIs_empty (h 1 _ rfl), mapIs_empty (h 2 _ rfl), mapIs_empty (h 3 _ rfl), fun x hx => (by cases hx), fun x hx => (by cases hx), by simp [newSt, St.ids]⟩, allocs_below [.map #[] 0, .map #[] 0, .map #[] 0, .map #[] 0, .cells (stCells (newSt w.heap.size)) 80] w⟩
set_option maxHeartbeats 1000000 in
theorem head_any (w : World) (S : St) (h : StAt w S) : Calls Tryz.prog 15 #[ptr S.sid] w fun e w' => e = .returned (.int .i64 S.head) ∧ w' = w := by
  obtain ⟨c0, -, -, -, -⟩ := h.cells
  go_enter Tryz.func15, Tryz.ntmps15
  go_wp2
  go_ret
  exact ⟨rfl, rfl⟩
end Go.Proofs.YtggdgjifhikmiaaGreatDoor
