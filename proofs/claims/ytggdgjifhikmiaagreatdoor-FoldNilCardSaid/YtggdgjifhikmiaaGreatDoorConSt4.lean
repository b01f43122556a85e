/- Lookups in the state's maps; contracts of fold.somebody, pack, squash, own, Release. Contracts of fold.own, Release. Contract of fold.Release. -/
import Derived.Test.YtggdgjifhikmiaaGreatDoorConNeeds
import Derived.Deep.QuietTactic
import Derived.BigQuiet
set_option linter.unusedVariables false
namespace Go.Proofs.YtggdgjifhikmiaaGreatDoor
open Go.RowKit Yk
def zeroRel : Rel := ⟨eB, eB, 0, .slice none 0 0, [], 0, 0, 0, false, eB⟩
section
variable {W : World} {S : St}
theorem lkA (h : StAt W S) (s : ByteArray) : (Instr.lookup 75 (.map (some S.aid)) (.string s) true).run Tryz.prog W = .ok (.tuple #[.int .u64 ((aget s S.accts).getD 0), .bool (aget s S.accts).isSome]) W := by
  rw [h.ac.look Tryz.underlying75 Tryz.underlying9 (Tryz.zeroValue33 _) s true]
  unfold St.aE
  rw [mget_map (fun x : Int => Value.int .u64 x)]
  cases aget s S.accts <;> rfl
theorem lkT (h : StAt W S) (s : ByteArray) : (Instr.lookup 76 (.map (some S.tid)) (.string s) true).run Tryz.prog W = .ok (.tuple #[.map ((aget s S.teams).map Tm.tid), .bool (aget s S.teams).isSome]) W := by
  rw [h.te.look Tryz.underlying76 Tryz.underlying9 (Tryz.zeroValue91 _) s true]
  unfold St.tE
  rw [mget_map (fun x : Tm => Value.map (some x.tid))]
  cases aget s S.teams <;> rfl
theorem lkK (h : StAt W S) (s : ByteArray) : (Instr.lookup 77 (.map (some S.kid)) (.string s) false).run Tryz.prog W = .ok (.pointer ((aget s S.packs).map fun p => ⟨p.pid, 0, none⟩)) W := by
  rw [h.pk.look Tryz.underlying77 Tryz.underlying9 (Tryz.zeroValue95 _) s false]
  unfold St.kE
  rw [mget_map (fun x : Pk => Value.pointer (some ⟨x.pid, 0, none⟩))]
  cases aget s S.packs <;> rfl
theorem lkQ (h : StAt W S) (s : ByteArray) : (Instr.lookup 78 (.map (some S.qid)) (.string s) true).run Tryz.prog W = .ok (.tuple #[.string ((aget s S.squashes).getD eB), .bool (aget s S.squashes).isSome]) W := by
  rw [h.sq.look Tryz.underlying78 Tryz.underlying9 (Tryz.zeroValue9 _) s true]
  unfold St.qE
  rw [mget_map (fun x : ByteArray => Value.string x)]
  cases aget s S.squashes <;> rfl
theorem lkB {b : Nat} {l : List ByteArray} (h : MapIs W b (trues l)) (s : ByteArray) : (Instr.lookup 91 (.map (some b)) (.string s) false).run Tryz.prog W = .ok (.bool (hasB s l)) W := by
  rw [h.look Tryz.underlying91 Tryz.underlying9 (Tryz.zeroValue4 _) s false, mget_trues]
  cases hasB s l <;> rfl
theorem lkR {p : Pk} (h : PkAt W p) (s : ByteArray) (c : Bool) : (Instr.lookup 92 (.map (some p.rid)) (.string s) c).run Tryz.prog W = .ok (if c then .tuple #[.agg (relCells ((aget s p.rels).getD zeroRel)), .bool (aget s p.rels).isSome] else .agg (relCells ((aget s p.rels).getD zeroRel))) W := by
  rw [h.re.look Tryz.underlying92 Tryz.underlying9 (Tryz.zeroValue64 _) s c]
  unfold relEnts
  rw [mget_map (fun x : Rel => Value.agg (relCells x))]
  cases aget s p.rels <;> rfl
end
def someS (S : St) (who : ByteArray) : Bool := (aget who S.accts).isSome || (aget who S.teams).isSome
set_option maxHeartbeats 1000000 in
theorem somebody_any (w : World) (S : St) (who : ByteArray) (h : StAt w S) : Calls Tryz.prog 91 #[ptr S.sid, .string who] w fun e w' => e = .returned (.bool (someS S who)) ∧ w' = w := by
  obtain ⟨c0, c1, c2, c3, c4⟩ := h.cells
  have l1 := lkA h who
  have l2 := lkT h who
  have HS : Hid (∀ a t, (aget who S.accts).isSome = a → (aget who S.teams).isSome = t → someS S who = (a || t)) := Lib.hid (fun a t h1 h2 => by subst h1; subst h2; rfl)
  obtain ⟨a, ha⟩ : ∃ a, (aget who S.accts).isSome = a := ⟨_, rfl⟩
  obtain ⟨t, ht⟩ : ∃ t, (aget who S.teams).isSome = t := ⟨_, rfl⟩
  obtain ⟨x, hx⟩ : ∃ x, (aget who S.accts).getD 0 = x := ⟨_, rfl⟩
  obtain ⟨y, hy⟩ : ∃ y, (aget who S.teams).map Tm.tid = y := ⟨_, rfl⟩
  have HA := Lib.hid (HS.out a t ha ht)
  rw [ha, hx] at l1; rw [ht, hy] at l2
  clear HS ha ht hx hy
  cases a <;> cases t
  all_goals
    go_enter Tryz.func91, Tryz.ntmps91
    go_wp2
    go_ret
    exact ⟨ret_bool HA.out.symm, rfl⟩
abbrev packPtr (S : St) (n : ByteArray) : Value := .pointer ((aget n S.packs).map fun p => ⟨p.pid, 0, none⟩)
set_option maxHeartbeats 1000000 in
theorem pack_any (w : World) (S : St) (n : ByteArray) (h : StAt w S) : Calls Tryz.prog 55 #[ptr S.sid, .string n] w fun e w' => e = .returned (packPtr S n) ∧ w' = w := by
  obtain ⟨c0, c1, c2, c3, c4⟩ := h.cells
  have l1 := lkK h n
  obtain ⟨x, hx⟩ : ∃ x, (aget n S.packs).map (fun p => (⟨p.pid, 0, none⟩ : Addr)) = x := ⟨_, rfl⟩
  unfold packPtr
  rw [hx] at l1 ⊢
  clear hx
  go_enter Tryz.func55, Tryz.ntmps55
  go_wp2
  go_ret
  exact ⟨rfl, rfl⟩
set_option maxHeartbeats 1000000 in
theorem fsquash_any (s : ByteArray) (w : World) (hs : s.size ≤ 9223372036854775807) : Calls Tryz.prog 58 #[.string s] w fun e w' => e = .returned (.string (mk ((squash (bs s)).getD []))) ∧ Below w.heap.size w w' := by
  obtain ⟨q, hq⟩ : ∃ q, squash (bs s) = q := ⟨_, rfl⟩
  rw [hq]
  have HC : Hid (∀ W, Calls Tryz.prog 110 #[.string s] W fun e w' => e = textErr q 60 ∧ Below W.heap.size W w') := Lib.hid (fun W => by
    have := squash_any s W hs
    rwa [show squash s.data.toList = q from hq] at this)
  clear hq
  cases q with
  | none =>
    go_enter Tryz.func58, Tryz.ntmps58
    go_wp2_with (go_at_call 110; refine (HC.out _).mono ?_; rintro e1 w1 ⟨rfl, hb⟩; unfold textErr)
    go_ret
    exact ⟨rfl, hb⟩
  | some q =>
    go_enter Tryz.func58, Tryz.ntmps58
    go_wp2_with (go_at_call 110; refine (HC.out _).mono ?_; rintro e1 w1 ⟨rfl, hb⟩; unfold textErr)
    go_ret
    exact ⟨rfl, hb⟩
end Go.Proofs.YtggdgjifhikmiaaGreatDoor
set_option linter.unusedVariables false
namespace Go.Proofs.YtggdgjifhikmiaaGreatDoor
open Go.RowKit Yk
theorem relcells {w : World} {b : Nat} {r : Rel} {T : TypeId} {fz : Nat × Nat} (h : w.heap[b]? = some (.cells (relCells r) T fz)) :
    w.cell? ⟨b, 0, none⟩ = some (.string r.ver) ∧ w.cell? ⟨b, 1, none⟩ = some (.string r.by_) ∧ w.cell? ⟨b, 2, none⟩ = some (.int .i64 r.at_) ∧ w.cell? ⟨b, 3, none⟩ = some r.nv ∧ w.cell? ⟨b, 4, none⟩ = some (.int .u64 r.sum) ∧
    w.cell? ⟨b, 5, none⟩ = some (.int .u32 r.n) ∧ w.cell? ⟨b, 6, none⟩ = some (.int .u32 r.size) ∧ w.cell? ⟨b, 7, none⟩ = some (.bool r.yanked) ∧ w.cell? ⟨b, 8, none⟩ = some (.string r.note) := by
  have := cells_of_block h
  exact ⟨this 0, this 1, this 2, this 3, this 4, this 5, this 6, this 7, this 8⟩
theorem alloc2 (w : World) (o1 o2 : Obj) : ((w.alloc o1).alloc o2).heap[w.heap.size]? = some o1 ∧ ((w.alloc o1).alloc o2).heap[w.heap.size + 1]? = some o2 :=
  ⟨allocs_at [o1, o2] w 0 _ rfl, allocs_at [o1, o2] w 1 _ rfl⟩
/-- a whole release is stored -/
abbrev relStore (w : World) (b : Nat) (r : Rel) : World := ((((((((w.setCell ⟨b, 0, none⟩ (.string r.ver)).setCell ⟨b, 1, none⟩ (.string r.by_)).setCell ⟨b, 2, none⟩ (.int .i64 r.at_)).setCell ⟨b, 3, none⟩ r.nv).setCell ⟨b, 4, none⟩ (.int .u64 r.sum)).setCell ⟨b, 5, none⟩ (.int .u32 r.n)).setCell ⟨b, 6, none⟩ (.int .u32 r.size)).setCell ⟨b, 7, none⟩ (.bool r.yanked)).setCell ⟨b, 8, none⟩ (.string r.note)
theorem relStore_at {w : World} {b : Nat} {r0 : Rel} {T : TypeId} {fz : Nat × Nat} (h : w.heap[b]? = some (.cells (relCells r0) T fz)) (r : Rel) : (relStore w b r).heap[b]? = some (.cells (relCells r) T fz) := by
  have h0 := heap_setCell_same (o := 0) h (.string r.ver)
  have h1 := heap_setCell_same (o := 1) h0 (.string r.by_)
  have h2 := heap_setCell_same (o := 2) h1 (.int .i64 r.at_)
  have h3 := heap_setCell_same (o := 3) h2 (r.nv)
  have h4 := heap_setCell_same (o := 4) h3 (.int .u64 r.sum)
  have h5 := heap_setCell_same (o := 5) h4 (.int .u32 r.n)
  have h6 := heap_setCell_same (o := 6) h5 (.int .u32 r.size)
  have h7 := heap_setCell_same (o := 7) h6 (.bool r.yanked)
  have h8 := heap_setCell_same (o := 8) h7 (.string r.note)
  simp only [relCells, List.setIfInBounds_toArray, List.set_cons_zero, List.set_cons_succ] at h8
  exact h8
theorem relStore_other {w : World} {b i : Nat} (r : Rel) (h : b ≠ i) : (relStore w b r).heap[i]? = w.heap[i]? := by
  simp only [relStore, heap_setCell_other _ h]
theorem sc_size (w : World) (a : Addr) (u : Value) : (w.setCell a u).heap.size = w.heap.size := by simp [World.setCell]
theorem relStore_size (w : World) (b : Nat) (r : Rel) : (relStore w b r).heap.size = w.heap.size := by simp only [relStore, sc_size]
set_option maxRecDepth 100000 in
set_option maxHeartbeats 1000000 in
theorem relStore_keep {w : World} {b : Nat} {r0 : Rel} {fz : Nat × Nat} (h : w.heap[b]? = some (.cells (relCells r0) 64 fz)) (r : Rel) : KeepN w (relStore w b r) := by
  refine ⟨Nat.le_of_eq (relStore_size w b r).symm, fun i cs fz' hi => relStore_other r ?_⟩
  intro e; subst e
  rw [h] at hi
  simp only [Option.some.injEq, Obj.cells.injEq] at hi
  exact absurd hi.2.1 (by decide)
theorem relStore_below {a w : World} {B b : Nat} (h : Below B a w) (hb : B ≤ b) (r : Rel) : Below B a (relStore w b r) :=
  ((((((((h.setCell (p := ⟨b, 0, none⟩) hb _).setCell (p := ⟨b, 1, none⟩) hb _).setCell (p := ⟨b, 2, none⟩) hb _).setCell (p := ⟨b, 3, none⟩) hb _).setCell (p := ⟨b, 4, none⟩) hb _).setCell (p := ⟨b, 5, none⟩) hb _).setCell (p := ⟨b, 6, none⟩) hb _).setCell (p := ⟨b, 7, none⟩) hb _).setCell (p := ⟨b, 8, none⟩) hb _
set_option maxHeartbeats 4000000 in
set_option maxRecDepth 100000 in
theorem own_any (ver by_ note : ByteArray) (at_ sum n size : Int) (nv : Value) (nd : List (ByteArray × ByteArray)) (yk : Bool) (w : World) (hn : NeedsAt w nv nd) :
    Calls Tryz.prog 56 #[.agg (relCells ⟨ver, by_, at_, nv, nd, sum, n, size, yk, note⟩)] w fun e w' => ∃ v', e = .returned (.agg (relCells ⟨ver, by_, at_, v', nd, sum, n, size, yk, note⟩)) ∧ NeedsK w' v' nd ∧ Below w.heap.size w w' := by
  unfold relCells
  have hn2 := hn
  obtain ⟨A, c, rfl, _⟩ := hn2
  have hb0 : Below w.heap.size w ((w.alloc (.cells (relCells ⟨ver, by_, at_, .slice A nd.length c, nd, sum, n, size, yk, note⟩) 64)).alloc (.cells (relCells zeroRel) 64)) := ((Below.refl _ _).alloc (Nat.le_refl _) _).alloc (by simp) _
  have hn0 := hn.below hb0
  go_enter Tryz.func56, Tryz.ntmps56
  go_wp2_with (go_at_call 94; refine (cloneNeeds_any _ _ _ hn0).mono ?_)
  rintro e w1 ⟨v1, rfl, hn1, hb1⟩
  go_wp2_with (go_at_call 108; refine (clipNeeds_any _ _ _ hn1).mono ?_)
  rintro e w2 ⟨v2, rfl, hn2, rfl⟩
  have hn3 := hn2
  obtain ⟨⟨A2, c2, rfl, _⟩, _⟩ := hn3
  obtain ⟨a0, a1⟩ := alloc2 w (.cells (relCells ⟨ver, by_, at_, .slice A nd.length c, nd, sum, n, size, yk, note⟩) 64) (.cells (relCells zeroRel) 64)
  have B0 := (hb1.block w.heap.size (by simp; omega)).trans a0
  have B1 := (hb1.block (w.heap.size + 1) (by simp)).trans a1
  obtain ⟨r0, r1, r2, r3, r4, r5, r6, r7, r8⟩ := relcells B0
  obtain ⟨z0, z1, z2, z3, z4, z5, z6, z7, z8⟩ := relcells B1
  have f1 := Lib.frozen_of_heap B0 3
  have g0 := Lib.frozen_of_heap B1 0; have g1 := Lib.frozen_of_heap B1 1; have g2 := Lib.frozen_of_heap B1 2; have g3 := Lib.frozen_of_heap B1 3; have g4 := Lib.frozen_of_heap B1 4; have g5 := Lib.frozen_of_heap B1 5; have g6 := Lib.frozen_of_heap B1 6; have g7 := Lib.frozen_of_heap B1 7; have g8 := Lib.frozen_of_heap B1 8
  have HN2 := Lib.hid hn2
  have HB := Lib.hid (bseq hb0 hb1)
  have HB1 := Lib.hid B1; have HB0 := Lib.hid B0
  have HSZ := Lib.hid hb1.size
  clear a0 a1 B0 B1 hn1 hn2 hn0 hn hb0 hb1
  go_wp2
  have F := relStore_at (w := w2.setCell ⟨w.heap.size, 3, none⟩ (.slice A2 nd.length c2)) ((heap_setCell_other (w := w2) (b := w.heap.size) (b' := w.heap.size + 1) (o := 3) (.slice A2 nd.length c2) (by omega)).trans HB1.out) ⟨ver, by_, at_, .slice A2 nd.length c2, nd, sum, n, size, yk, note⟩
  have hbel : Below w.heap.size w (relStore (w2.setCell ⟨w.heap.size, 3, none⟩ (.slice A2 nd.length c2)) (w.heap.size + 1) ⟨ver, by_, at_, .slice A2 nd.length c2, nd, sum, n, size, yk, note⟩) := relStore_below (HB.out.setCell (p := ⟨w.heap.size, 3, none⟩) (Nat.le_refl _) _) (Nat.le_succ _) _
  obtain ⟨y0, y1, y2, y3, y4, y5, y6, y7, y8⟩ := relcells F
  have k0 : KeepN w2 (w2.setCell ⟨w.heap.size, 3, none⟩ (.slice A2 nd.length c2)) := KeepN.setCell HB0.out (by decide) _
  have k1 : KeepN (w2.setCell ⟨w.heap.size, 3, none⟩ (.slice A2 nd.length c2)) (relStore (w2.setCell ⟨w.heap.size, 3, none⟩ (.slice A2 nd.length c2)) (w.heap.size + 1) ⟨ver, by_, at_, .slice A2 nd.length c2, nd, sum, n, size, yk, note⟩) := relStore_keep ((heap_setCell_other _ (by omega)).trans HB1.out) _
  refine bodyPost_ret (v := .agg (relCells ⟨ver, by_, at_, .slice A2 nd.length c2, nd, sum, n, size, yk, note⟩)) ?_ rfl ?_
  · simp [results, Tryz.results56, go_sem, y0, y1, y2, y3, y4, y5, y6, y7, y8]
  · exact ⟨_, rfl, HN2.out.keep (k0.trans k1), hbel⟩
end Go.Proofs.YtggdgjifhikmiaaGreatDoor
set_option linter.unusedVariables false
namespace Go.Proofs.YtggdgjifhikmiaaGreatDoor
open Go.RowKit Yk
def relOf (S : St) (n v : ByteArray) : Rel := match aget n S.packs with
  | none => zeroRel
  | some p => (aget v p.rels).getD zeroRel
def relIs (S : St) (n v : ByteArray) : Bool := match aget n S.packs with
  | none => false
  | some p => (aget v p.rels).isSome
theorem relOf_needs {w : World} {S : St} (h : StAt w S) {n : ByteArray} {p : Pk} (hp : aget n S.packs = some p) (v : ByteArray) : PkAt w p ∧ NeedsK w ((aget v p.rels).getD zeroRel).nv ((aget v p.rels).getD zeroRel).needs := by
  obtain ⟨x, hx, h1, h2⟩ := aget_mem hp
  have hpk := h.pks x hx
  rw [h2] at hpk
  refine ⟨hpk, ?_⟩
  cases hr : aget v p.rels with
  | none => exact NeedsK.nil w
  | some r =>
    obtain ⟨y, hy, h3, h4⟩ := aget_mem hr
    have := hpk.nd y hy
    rw [h4] at this
    exact this
/-- all nine cells may be written -/
theorem relfrozen {w : World} {b : Nat} {r : Rel} {T : TypeId} (h : w.heap[b]? = some (.cells (relCells r) T (0, 0))) :
    w.frozen? ⟨b, 0, none⟩ = false ∧ w.frozen? ⟨b, 1, none⟩ = false ∧ w.frozen? ⟨b, 2, none⟩ = false ∧ w.frozen? ⟨b, 3, none⟩ = false ∧ w.frozen? ⟨b, 4, none⟩ = false ∧ w.frozen? ⟨b, 5, none⟩ = false ∧ w.frozen? ⟨b, 6, none⟩ = false ∧ w.frozen? ⟨b, 7, none⟩ = false ∧ w.frozen? ⟨b, 8, none⟩ = false := by
  have := Lib.frozen_of_heap h
  exact ⟨this 0, this 1, this 2, this 3, this 4, this 5, this 6, this 7, this 8⟩
abbrev Z64 : Obj := .cells (relCells zeroRel) 64
set_option maxHeartbeats 4000000 in
set_option maxRecDepth 100000 in
theorem release_any (S : St) (n v : ByteArray) (w : World) (h : StAt w S) :
    Calls Tryz.prog 24 #[ptr S.sid, .string n, .string v] w fun e w' => ∃ nv, e = .returned (.tuple #[.agg (relCells { relOf S n v with nv := nv }), .bool (relIs S n v)]) ∧ NeedsK w' nv (relOf S n v).needs ∧ Below w.heap.size w w' := by
  have hb0 : Below w.heap.size w (w.alloc Z64) := (Below.refl _ _).alloc (Nat.le_refl _) _
  have h0 := h.next hb0
  cases hp : aget n S.packs with
  | none =>
    have hr : relOf S n v = zeroRel := by unfold relOf; rw [hp]
    have hi : relIs S n v = false := by unfold relIs; rw [hp]
    rw [hr, hi]
    have HP : Hid (packPtr S n = .pointer none) := Lib.hid (by unfold packPtr; rw [hp]; rfl)
    clear hr hi hp
    unfold relCells
    go_enter Tryz.func24, Tryz.ntmps24
    go_wp2_with (go_at_call 55; refine (pack_any _ S n h0).mono ?_; rw [HP.out]; rintro e w1 ⟨rfl, rfl⟩)
    have F := heap_alloc_new w Z64
    obtain ⟨y0, y1, y2, y3, y4, y5, y6, y7, y8⟩ := relcells F
    refine bodyPost_ret (v := .tuple #[.agg (relCells zeroRel), .bool false]) ?_ rfl ?_
    · have y0' : (w.alloc Z64).cell? ⟨w.heap.size, 0, none⟩ = some (.string ⟨#[]⟩) := y0
      have y1' : (w.alloc Z64).cell? ⟨w.heap.size, 1, none⟩ = some (.string ⟨#[]⟩) := y1
      have y8' : (w.alloc Z64).cell? ⟨w.heap.size, 8, none⟩ = some (.string ⟨#[]⟩) := y8
      have y2' : (w.alloc Z64).cell? ⟨w.heap.size, 2, none⟩ = some (.int .i64 0) := y2
      have y3' : (w.alloc Z64).cell? ⟨w.heap.size, 3, none⟩ = some (.slice none 0 0) := y3
      have y4' : (w.alloc Z64).cell? ⟨w.heap.size, 4, none⟩ = some (.int .u64 0) := y4
      have y5' : (w.alloc Z64).cell? ⟨w.heap.size, 5, none⟩ = some (.int .u32 0) := y5
      have y6' : (w.alloc Z64).cell? ⟨w.heap.size, 6, none⟩ = some (.int .u32 0) := y6
      have y7' : (w.alloc Z64).cell? ⟨w.heap.size, 7, none⟩ = some (.bool false) := y7
      simp [results, Tryz.results24, go_sem, zeroRel]
    · exact ⟨_, rfl, NeedsK.nil _, hb0⟩
  | some p =>
    have hr : relOf S n v = (aget v p.rels).getD zeroRel := by unfold relOf; rw [hp]
    have hi : relIs S n v = (aget v p.rels).isSome := by unfold relIs; rw [hp]
    rw [hr, hi]
    have HP : Hid (packPtr S n = .pointer (some ⟨p.pid, 0, none⟩)) := Lib.hid (by unfold packPtr; rw [hp]; rfl)
    obtain ⟨hpk, hn⟩ := relOf_needs h0 hp v
    have l1 := lkR hpk v true
    obtain ⟨d0, d1, d2⟩ := hpk.cells
    obtain ⟨⟨ver, by_, at_, nv, nd, sum, n1, sz, yk, note⟩, hq⟩ : ∃ q, (aget v p.rels).getD zeroRel = q := ⟨_, rfl⟩
    obtain ⟨i, hi2⟩ : ∃ i, (aget v p.rels).isSome = i := ⟨_, rfl⟩
    rw [hq] at l1 hn ⊢
    rw [hi2] at l1 ⊢
    simp only [if_true] at l1
    have hn2 := hn
    obtain ⟨⟨A, c, hA, _⟩, _⟩ := hn2
    simp only at hA
    subst hA
    clear hr hi hp hq hi2
    unfold relCells
    have hb1 : Below (w.alloc Z64).heap.size (w.alloc Z64) ((w.alloc Z64).alloc (.cells (relCells ⟨ver, by_, at_, .slice A nd.length c, nd, sum, n1, sz, yk, note⟩) 64)) := (Below.refl _ _).alloc (Nat.le_refl _) _
    have hn1 := hn.keep (KeepN.below hb1)
    go_enter Tryz.func24, Tryz.ntmps24
    go_wp2_with (first | (go_at_call 55; refine (pack_any _ S n h0).mono ?_; rw [HP.out]; rintro e w1 ⟨rfl, rfl⟩) | (go_at_call 56; refine (own_any _ _ _ _ _ _ _ _ _ _ _ hn1.1).mono ?_))
    rintro e w1 ⟨v1, rfl, hk1, hb2⟩
    have hk2 := hk1
    obtain ⟨⟨A2, c2, rfl, _⟩, _⟩ := hk2
    have hbt := bseq hb0 (bseq hb1 hb2)
    have B0 := ((bseq hb1 hb2).block w.heap.size (by simp)).trans (heap_alloc_new w Z64)
    obtain ⟨z0, z1, z2, z3, z4, z5, z6, z7, z8⟩ := relcells B0
    obtain ⟨g0, g1, g2, g3, g4, g5, g6, g7, g8⟩ := relfrozen B0
    have HB0 := Lib.hid B0; have HK := Lib.hid hk1; have HBT := Lib.hid hbt
    clear B0 hk1 hbt hb2 hn1 hb1
    go_wp2
    have F := relStore_at HB0.out ⟨ver, by_, at_, .slice A2 nd.length c2, nd, sum, n1, sz, yk, note⟩
    have k1 : KeepN w1 (relStore w1 w.heap.size ⟨ver, by_, at_, .slice A2 nd.length c2, nd, sum, n1, sz, yk, note⟩) := relStore_keep HB0.out _
    have hbel : Below w.heap.size w (relStore w1 w.heap.size ⟨ver, by_, at_, .slice A2 nd.length c2, nd, sum, n1, sz, yk, note⟩) := relStore_below HBT.out (Nat.le_refl _) _
    have hkk := HK.out.keep k1
    obtain ⟨y0, y1, y2, y3, y4, y5, y6, y7, y8⟩ := relcells F
    refine bodyPost_ret (v := .tuple #[.agg (relCells ⟨ver, by_, at_, .slice A2 nd.length c2, nd, sum, n1, sz, yk, note⟩), .bool i]) ?_ rfl ?_
    · simp [results, Tryz.results24, go_sem, y0, y1, y2, y3, y4, y5, y6, y7, y8]
    · exact ⟨_, rfl, hkk, hbel⟩
end Go.Proofs.YtggdgjifhikmiaaGreatDoor
