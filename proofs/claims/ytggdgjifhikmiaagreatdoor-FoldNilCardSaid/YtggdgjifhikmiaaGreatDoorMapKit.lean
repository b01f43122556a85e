/- Maps keyed by strings: what a block holds, in order of coming; read, put, taken away. No condition of its own. -/
import Derived.Test.YtggdgjifhikmiaaGreatDoorBase
import Derived.MapKept
import Derived.Maps.OwnSet
set_option linter.unusedVariables false
namespace Go.Proofs.YtggdgjifhikmiaaGreatDoor
open Go.RowKit Yk
abbrev Ents := List (ByteArray × Value)
def mget (k : ByteArray) : Ents → Option Value
  | [] => none
  | x :: r => if x.1 = k then some x.2 else mget k r
def mput (k : ByteArray) (v : Value) : Ents → Ents
  | [] => [(k, v)]
  | x :: r => if x.1 = k then (k, v) :: r else x :: mput k v r
def mdel (k : ByteArray) : Ents → Ents
  | [] => []
  | x :: r => if x.1 = k then r else x :: mdel k r
def entOf (e : MapEntry) : Value × Value := (e.key, e.val)
def entV (x : ByteArray × Value) : Value × Value := (.string x.1, x.2)
/-- a block that is a map of string keys, with its entries -/
def MapIs (w : World) (b : Nat) (M : Ents) : Prop :=
  ∃ es clock, w.heap[b]? = some (.map es clock) ∧ MapKept.Stamped es clock ∧ es.toList.map entOf = M.map entV
theorem MapIs.block {w w' : World} {b : Nat} {M : Ents} (h : MapIs w b M) (e : w'.heap[b]? = w.heap[b]?) : MapIs w' b M := by
  obtain ⟨es, c, hb, hs, hm⟩ := h
  exact ⟨es, c, e.trans hb, hs, hm⟩
theorem MapIs.lt {w : World} {b : Nat} {M : Ents} (h : MapIs w b M) : b < w.heap.size := by
  obtain ⟨es, c, hb, hs, hm⟩ := h
  exact (Array.getElem?_eq_some_iff.1 hb).1
theorem MapIs.made (w : World) : MapIs (w.alloc (.map #[] 0)) w.heap.size [] := ⟨#[], 0, heap_alloc_new _ _, MapKept.stamped_empty 0, rfl⟩
theorem MapIs.ne_cells {w : World} {b b' : Nat} {M : Ents} {cs : Array Value} {T : TypeId} {f : Nat × Nat} (h : MapIs w b M) (h' : w.heap[b']? = some (.cells cs T f)) : b' ≠ b := by
  obtain ⟨es, c, hb, _⟩ := h
  intro e; subst e
  rw [h'] at hb; cases hb
/-- keys are strings, no two alike -/
theorem keys_str {l : List MapEntry} {M : Ents} (h : l.map entOf = M.map entV) : ∀ x ∈ l, MapKept.IsKey .string x.key := by
  induction l generalizing M with
  | nil => intro x hx; cases hx
  | cons e l ih =>
    cases M with
    | nil => simp at h
    | cons y M =>
      simp only [List.map_cons, List.cons.injEq] at h
      intro x hx
      cases hx with
      | head =>
        have : e.key = .string y.1 := congrArg Prod.fst h.1
        rw [this]; trivial
      | tail _ hx => exact ih h.2 x hx
/-- what is found, at what place -/
theorem find_str (s : ByteArray) : ∀ (l : List MapEntry) (M : Ents) (i : Nat), l.map entOf = M.map entV →
    (Instr.findNow .string (.string s) l i = some none ∧ mget s M = none ∧ (∀ x ∈ l, x.key ≠ .string s) ∧ (∀ v, (mput s v M).map entV = M.map entV ++ [(.string s, v)]) ∧ mdel s M = M) ∨
    ∃ j v, Instr.findNow .string (.string s) l i = some (some (i + j, v)) ∧ mget s M = some v ∧ j < l.length ∧ (l[j]?).map (·.key) = some (.string s) ∧ (∀ u, (mput s u M).map entV = (M.map entV).set j (.string s, u)) ∧ (mdel s M).map entV = (M.map entV).eraseIdx j
  | [], [], i, _ => .inl ⟨rfl, rfl, by simp, fun v => rfl, rfl⟩
  | [], y :: M, i, h => by simp at h
  | e :: l, [], i, h => by simp at h
  | e :: l, y :: M, i, h => by
    simp only [List.map_cons, List.cons.injEq] at h
    obtain ⟨h1, h2⟩ := h
    have hk : e.key = .string y.1 := congrArg Prod.fst h1
    have hv : e.val = y.2 := congrArg Prod.snd h1
    by_cases hs : y.1 = s
    · refine .inr ⟨0, y.2, ?_, by simp [mget, hs], by simp, by simp [hk, hs], fun u => by simp [mput, hs, entV], by simp [mdel, hs]⟩
      have hb : (s == y.1) = true := (MapKept.bytes_beq _ _).2 hs.symm
      simp [Instr.findNow, Instr.sameNow, hk, hb, hv]
    · have hb : (s == y.1) = false := by
        cases hq : s == y.1
        · rfl
        · exact absurd ((MapKept.bytes_beq _ _).1 hq).symm hs
      rcases find_str s l M (i + 1) h2 with ⟨f1, f2, f3, f4, f5⟩ | ⟨j, v, f1, f2, f3, f4, f5, f6⟩
      · refine .inl ⟨by simp [Instr.findNow, Instr.sameNow, hk, hb, f1], by simp [mget, hs, f2], ?_, fun v => by simp [mput, hs, f4 v, entV], by simp [mdel, hs, f5]⟩
        intro x hx
        cases hx with
        | head => rw [hk]; intro q; cases q; exact hs rfl
        | tail _ hx => exact f3 x hx
      · exact .inr ⟨j + 1, v, by simp [Instr.findNow, Instr.sameNow, hk, hb, f1]; omega, by simp [mget, hs, f2], by simp; omega, by simpa using f4, fun u => by simp [mput, hs, f5 u], by simp [mdel, hs, f6]⟩
section
variable {P : Program} {T K E : TypeId} {w : World} {b : Nat} {M : Ents}
theorem MapIs.look (h : MapIs w b M) (ht : P.underlying T = some (.map K E)) (hk : P.underlying K = some .string) {z : Value} (hz : (zeroValue E).run P w = .ok z w) (s : ByteArray) (c : Bool) :
    (Instr.lookup T (.map (some b)) (.string s) c).run P w = .ok (if c then .tuple #[(mget s M).getD z, .bool (mget s M).isSome] else (mget s M).getD z) w := by
  obtain ⟨es, clock, hb, hs, hm⟩ := h
  rcases find_str s es.toList M 0 hm with ⟨f1, f2, _⟩ | ⟨j, v, f1, f2, _⟩
  · simp [Instr.lookup, run_underlying ht, MapKept.run_getObj_map hb, MapKept.run_checkKey hk (k := .string s) trivial, MapKept.run_findKey hk f1, hz, Result.andThen, f2]
  · simp [Instr.lookup, run_underlying ht, MapKept.run_getObj_map hb, MapKept.run_checkKey hk (k := .string s) trivial, MapKept.run_findKey hk f1, Result.andThen, f2]
theorem MapIs.look_none (h : MapIs w b M) (ht : P.underlying T = some (.map K E)) (hk : P.underlying K = some .string) {z : Value} (hz : (zeroValue E).run P w = .ok z w) (s : ByteArray) (hg : mget s M = none) (c : Bool) :
    (Instr.lookup T (.map (some b)) (.string s) c).run P w = .ok (if c then .tuple #[z, .bool false] else z) w := by rw [h.look ht hk hz s c, hg]; rfl
theorem MapIs.look_some (h : MapIs w b M) (ht : P.underlying T = some (.map K E)) (hk : P.underlying K = some .string) {z : Value} (hz : (zeroValue E).run P w = .ok z w) (s : ByteArray) {v : Value} (hg : mget s M = some v) (c : Bool) :
    (Instr.lookup T (.map (some b)) (.string s) c).run P w = .ok (if c then .tuple #[v, .bool true] else v) w := by rw [h.look ht hk hz s c, hg]; rfl
def setBlk (w : World) (b : Nat) (o : Obj) : World := { w with heap := w.heap.setIfInBounds b o }
@[simp] theorem setBlk_size (w : World) (b : Nat) (o : Obj) : (setBlk w b o).heap.size = w.heap.size := by simp [setBlk]
theorem setBlk_same {o o' : Obj} (hb : w.heap[b]? = some o) : (setBlk w b o').heap[b]? = some o' := (MapKept.heap_set hb).1
theorem setBlk_other {o' : Obj} {i : Nat} (hi : i ≠ b) : (setBlk w b o').heap[i]? = w.heap[i]? := by simp [setBlk, Ne.symm hi]
theorem list_set_map {α β : Type} (f : α → β) (l : List α) (j : Nat) (a : α) (y : β) (h : f a = y) : (l.set j a).map f = (l.map f).set j y := by rw [List.map_set, h]
theorem modify_toList (es : Array MapEntry) (j : Nat) (f : MapEntry → MapEntry) (e : MapEntry) (he : es[j]? = some e) : (es.modify j f).toList = es.toList.set j (f e) := by
  apply List.ext_getElem?
  intro i
  simp only [Array.getElem?_toList, Array.getElem?_modify, List.getElem?_set]
  by_cases hij : j = i
  · subst hij
    have := (Array.getElem?_eq_some_iff.1 he).1
    have h2 : es[j]'this = e := by rw [Array.getElem?_eq_getElem this] at he; exact Option.some.inj he
    simp [this, h2]
  · simp [hij]
theorem MapIs.put (h : MapIs w b M) (ht : P.underlying T = some (.map K E)) (hk : P.underlying K = some .string) (s : ByteArray) (v : Value) :
    ∃ es c, (∀ W, W.heap[b]? = w.heap[b]? → (Instr.mapUpdate T (.map (some b)) (.string s) v).run P W = .ok () (setBlk W b (.map es c))) ∧ ∀ w', w'.heap[b]? = some (.map es c) → MapIs w' b (mput s v M) := by
  obtain ⟨es, clock, hb0, hs, hm⟩ := h
  rcases find_str s es.toList M 0 hm with ⟨f1, f2, f3, f4, _⟩ | ⟨j, v0, f1, f2, f3, f4, f5, _⟩
  · refine ⟨es.push { key := .string s, val := v, born := clock }, clock + 1, ?_, fun w' hw' => ⟨_, _, hw', MapKept.stamped_push hs f3, ?_⟩⟩
    · intro w e
      have hb := e.trans hb0
      simp [Instr.mapUpdate, run_underlying ht, MapKept.run_getObj_map hb, MapKept.run_checkKey hk (k := .string s) trivial, MapKept.run_findKey hk f1, MapKept.run_setObj_map _ hb, Result.andThen, setBlk]
    · rw [f4 v]; simp [hm, entOf]
  · have hj : ∃ e, es[j]? = some e := ⟨es[j]'(by simpa using f3), by simp⟩
    obtain ⟨e1, he⟩ := hj
    have hke : e1.key = .string s := by simpa [he] using f4
    have hkey : ∀ e', es[j]? = some e' → ({ e' with key := .string s, val := v } : MapEntry).key = e'.key := fun e' he' => by rw [he] at he'; cases he'; exact hke.symm
    refine ⟨es.modify j fun e => { e with key := .string s, val := v }, clock, ?_, fun w' hw' => ⟨_, _, hw', MapKept.stamped_modify hs _ _ (fun _ _ => rfl) (fun e' _ he' => hkey e' he'), ?_⟩⟩
    · intro w e
      have hb := e.trans hb0
      simp only [Nat.zero_add] at f1
      have hkt := MapKept.run_keyThatStays (P := P) (w := w) (d := .string) (k := .string s) trivial
      have hgd : ((es[j]?).map (·.key)).getD (.string s) = .string s := by rw [he]; simp [hke]
      simp [Instr.mapUpdate, run_underlying ht, MapKept.run_getObj_map hb, MapKept.run_checkKey hk (k := .string s) trivial, MapKept.run_findKey hk f1, he, hke, hkt, MapKept.run_setObj_map _ hb, Result.andThen, setBlk]
    · rw [f5 v, modify_toList es j _ e1 he, list_set_map entOf _ _ _ (.string s, v) rfl, hm]
theorem MapIs.del (h : MapIs w b M) (ht : P.underlying T = some (.map K E)) (hk : P.underlying K = some .string) (s : ByteArray) :
    ∃ es c, (∀ W ty, W.heap[b]? = w.heap[b]? → (Builtin.delete_ #[T, K] ty #[.map (some b), .string s]).run P W = .ok (.tuple #[]) (setBlk W b (.map es c))) ∧ ∀ w', w'.heap[b]? = some (.map es c) → MapIs w' b (mdel s M) := by
  obtain ⟨es, clock, hb0, hs, hm⟩ := h
  have hself : ∀ w : World, w.heap[b]? = some (.map es clock) → setBlk w b (.map es clock) = w := by
    intro w hb
    unfold setBlk
    have : w.heap.setIfInBounds b (.map es clock) = w.heap := by
      apply Array.ext_getElem?
      intro i
      by_cases hi : i = b
      · subst hi; exact (MapKept.heap_set hb).1.trans hb.symm
      · exact (MapKept.heap_set hb).2 i hi
    rw [this]
  rcases find_str s es.toList M 0 hm with ⟨f1, _, _, _, f5⟩ | ⟨j, v0, f1, _, f3, _, _, f6⟩
  · refine ⟨es, clock, fun w ty e => ?_, fun w' hw' => ⟨es, clock, hw', hs, by rw [f5]; exact hm⟩⟩
    have hb := e.trans hb0
    rw [hself w hb]
    simp [Builtin.delete_, run_underlying ht, MapKept.run_getObj_map hb, MapKept.run_checkKey hk (k := .string s) trivial, MapKept.run_findKey hk f1, MapKept.run_setObj_map _ hb, Result.andThen]
    try exact hself w hb
  · simp only [Nat.zero_add] at f1
    refine ⟨es.eraseIdxIfInBounds j, clock, fun w ty e => ?_, fun w' hw' => ⟨_, _, hw', MapKept.stamped_erase hs j, ?_⟩⟩
    · have hb := e.trans hb0
      simp [Builtin.delete_, run_underlying ht, MapKept.run_getObj_map hb, MapKept.run_checkKey hk (k := .string s) trivial, MapKept.run_findKey hk f1, MapKept.run_setObj_map _ hb, Result.andThen, setBlk]
    · have hj : j < es.size := by simpa using f3
      have e1 : (es.eraseIdxIfInBounds j).toList = es.toList.eraseIdx j := by
        unfold Array.eraseIdxIfInBounds
        rw [dif_pos hj]; simp
      rw [e1, f6, ← hm]
      apply List.ext_getElem?
      intro i
      simp only [List.getElem?_map, List.getElem?_eraseIdx]
      split <;> simp
end
end Go.Proofs.YtggdgjifhikmiaaGreatDoor
