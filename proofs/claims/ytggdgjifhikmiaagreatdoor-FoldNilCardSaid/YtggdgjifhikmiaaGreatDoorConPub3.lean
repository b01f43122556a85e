/- Contracts of fold.publish's closure, release and publish. Contract of fold.release with publish's closure. The walk of fold.release with publish's closure. A package is added to a state: plain lemmas. -/
import Derived.Test.YtggdgjifhikmiaaGreatDoorConMake
set_option linter.unusedVariables false
namespace Go.Proofs.YtggdgjifhikmiaaGreatDoor
open Go.RowKit Yk
theorem PkAt.other {w w' : World} {p : Pk} {b : Nat} {cs : Array Value} {T : TypeId} {fz : Nat × Nat} (h : PkAt w p) (hb : w.heap[b]? = some (.cells cs T fz)) (hT : T ≠ 94) (ht : Turned [b] w w') (hK : KeepN w w') : PkAt w' p := by
  refine h.turned ht hK ?_
  intro q
  simp only [Pk.ids, List.mem_cons, List.not_mem_nil, or_false] at q
  rcases q with rfl | rfl | rfl
  · rw [h.hd] at hb
    simp only [Option.some.injEq, Obj.cells.injEq] at hb
    exact hT hb.2.1.symm
  · exact h.ho.ne_cells hb rfl
  · exact h.re.ne_cells hb rfl
/-- a block of another kind turns -/
theorem StAt.other {w w' : World} {S : St} {b : Nat} {cs : Array Value} {T : TypeId} {fz : Nat × Nat} (h : StAt w S) (hb : w.heap[b]? = some (.cells cs T fz)) (hT : T ≠ 94) (hT2 : T ≠ 80) (ht : Turned [b] w w') (hK : KeepN w w') : StAt w' S := by
  have hm : ∀ {i : Nat} {M : Ents}, MapIs w i M → MapIs w' i M := fun hi => hi.block (ht.block _ hi.lt (by simpa using (hi.ne_cells hb).symm))
  refine ⟨(ht.block _ (Array.getElem?_eq_some_iff.1 h.hd).1 ?_).trans h.hd, hm h.ac, hm h.te, hm h.pk, hm h.sq, fun x hx => hm (h.tms x hx), fun x hx => (h.pks x hx).other hb hT ht hK, h.nd⟩
  intro q
  simp only [List.mem_singleton] at q
  rw [← q, h.hd] at hb
  simp only [Option.some.injEq, Obj.cells.injEq] at hb
  exact hT2 hb.2.1.symm
/-- what publish's closure reads -/
structure PM (S : St) (eb sb rb : Nat) (e : Ev) (nv : Value) (r0 : Rel) (x : World) : Prop where
  st : StAt x S
  ev : x.heap[eb]? = some (.cells (evCells e nv) 36 (0, 0))
  bx : x.cell? ⟨sb, 0, none⟩ = some (ptr S.sid)
  sl : sb < x.heap.size
  rl : x.heap[rb]? = some (.cells (relCells r0) 64 (0, 0))
theorem PM.next {S : St} {eb sb rb : Nat} {e : Ev} {nv : Value} {r0 : Rel} {x y : World} (hb : Below x.heap.size x y) (h : PM S eb sb rb e nv r0 x) : PM S eb sb rb e nv r0 y :=
  ⟨h.st.next hb, (hb.block _ (Array.getElem?_eq_some_iff.1 h.ev).1).trans h.ev, (cell_block (hb.block _ h.sl)).trans h.bx, Nat.lt_of_lt_of_le h.sl hb.size, (hb.block _ (Array.getElem?_eq_some_iff.1 h.rl).1).trans h.rl⟩
abbrev PMs (S : St) (eb sb : Nat) (e : Ev) (nv : Value) (x : World) : Prop :=
  x.cell? ⟨eb, 1, none⟩ = some (.string e.who) ∧ x.cell? ⟨eb, 3, none⟩ = some (.string e.ver) ∧ x.cell? ⟨eb, 4, none⟩ = some nv ∧ x.cell? ⟨eb, 5, none⟩ = some (.int .u64 e.sum) ∧ x.cell? ⟨eb, 6, none⟩ = some (.int .u32 e.n) ∧ x.cell? ⟨eb, 7, none⟩ = some (.int .u32 e.size) ∧
  x.cell? ⟨sb, 0, none⟩ = some (ptr S.sid) ∧ x.cell? ⟨S.sid, 0, none⟩ = some (.int .i64 S.head)
theorem PM.all {S : St} {eb sb rb : Nat} {e : Ev} {nv : Value} {r0 : Rel} {x : World} (h : PM S eb sb rb e nv r0 x) : PMs S eb sb e nv x := by
  obtain ⟨e0, e1, e2, e3, e4, e5, e6, e7, e8, e9⟩ := evcells h.ev
  exact ⟨e1, e3, e4, e5, e6, e7, h.bx, h.st.cells.1⟩
theorem PMs.keep {S : St} {eb sb rb : Nat} {e : Ev} {nv : Value} {x : World} (r : Rel) (n1 : rb ≠ eb) (n2 : rb ≠ sb) (n3 : rb ≠ S.sid) (h : PMs S eb sb e nv x) : PMs S eb sb e nv (relStore x rb r) := by
  have k1 := relStore_other (w := x) r n1
  have k2 := relStore_other (w := x) r n2
  have k3 := relStore_other (w := x) r n3
  obtain ⟨a1, a2, a3, a4, a5, a6, a7, a8⟩ := h
  exact ⟨(cell_block k1).trans a1, (cell_block k1).trans a2, (cell_block k1).trans a3, (cell_block k1).trans a4, (cell_block k1).trans a5, (cell_block k1).trans a6, (cell_block k2).trans a7, (cell_block k3).trans a8⟩
theorem Turned.more {I : List Nat} {a b c : World} (h : Turned I a b) (k : Turned I b c) : Turned I a c := h.trans k (fun j hj => .inl hj)
theorem relStore_turned (w : World) (b : Nat) (r : Rel) : Turned [b] w (relStore w b r) :=
  ((((((((Turned.setCell (w := w) (b := b) (o := 0) (.string r.ver)).more (Turned.setCell (o := 1) (.string r.by_))).more (Turned.setCell (o := 2) (.int .i64 r.at_))).more (Turned.setCell (o := 3) r.nv)).more (Turned.setCell (o := 4) (.int .u64 r.sum))).more (Turned.setCell (o := 5) (.int .u32 r.n))).more (Turned.setCell (o := 6) (.int .u32 r.size))).more (Turned.setCell (o := 7) (.bool r.yanked))).more (Turned.setCell (o := 8) (.string r.note))
def newRel (S : St) (e : Ev) (nv : Value) : Rel := ⟨e.ver, e.who, S.head, nv, e.needs, e.sum, e.n, e.size, false, eB⟩
set_option maxHeartbeats 4000000 in
set_option maxRecDepth 100000 in
theorem pubTurn_any (k : Int) (who nm ver hold note : ByteArray) (nd : List (ByteArray × ByteArray)) (sm n sz : Int) (nv : Value) (S : St) (eb sb rb : Nat) (r0 : Rel) (w : World)
    (h : PM S eb sb rb ⟨k, who, nm, ver, nd, sm, n, sz, hold, note⟩ nv r0 w) (hn : NeedsAt w nv nd) (hn1 : rb ≠ eb) (hn2 : rb ≠ sb) (hn3 : rb ≠ S.sid) :
    Calls Tryz.prog 93 #[ptr rb, ptr eb, ptr sb] w fun e w' => e = noRet ∧ ∃ nv', NeedsK w' nv' nd ∧ w'.heap[rb]? = some (.cells (relCells (newRel S ⟨k, who, nm, ver, nd, sm, n, sz, hold, note⟩ nv')) 64 (0, 0)) ∧ Turned [rb] w w' ∧ KeepN w w' := by
  obtain ⟨A, cp, rfl, _⟩ := id hn
  have H := Lib.hid h; have HN := Lib.hid hn
  have HS0 := h.all
  obtain ⟨s1, s2, s3, s4, s5, s6, s7, s8⟩ := HS0
  have HD : Hid (PM S eb sb rb ⟨k, who, nm, ver, nd, sm, n, sz, hold, note⟩ (.slice A nd.length cp) r0 w.drew) := Lib.hid (PM.next ((Below.refl _ _).drew) h)
  have HND : Hid (NeedsAt w.drew (.slice A nd.length cp) nd) := Lib.hid (hn.below ((Below.refl _ _).drew))
  clear h hn
  go_enter Tryz.func93, Tryz.ntmps93
  go_wp2
  go_region_held3 (fun x => x.cell? ⟨eb, 1, none⟩ = some (.string who) ∧ x.cell? ⟨eb, 3, none⟩ = some (.string ver) ∧ x.cell? ⟨eb, 4, none⟩ = some (.slice A nd.length cp) ∧ x.cell? ⟨eb, 5, none⟩ = some (.int .u64 sm) ∧ x.cell? ⟨eb, 6, none⟩ = some (.int .u32 n) ∧ x.cell? ⟨eb, 7, none⟩ = some (.int .u32 sz) ∧
      x.cell? ⟨sb, 0, none⟩ = some (ptr S.sid) ∧ x.cell? ⟨S.sid, 0, none⟩ = some (.int .i64 S.head))
    ((first | with_reducible exact PM.all hm5 | with_reducible exact PM.all HD.out | with_reducible exact PMs.keep (e := ⟨k, who, nm, ver, nd, sm, n, sz, hold, note⟩) ⟨ver, who, S.head, .slice A5 nd.length c5, nd, sm, n, sz, false, eB⟩ hn1 hn2 hn3 (PM.all hm5)))
    ((go_at_call 94; refine (cloneNeeds_any _ _ _ HND.out).mono ?_; rintro e w2 ⟨v', rfl, hk5, hb5⟩; have hm5 := PM.next hb5 HD.out; obtain ⟨⟨A5, c5, rfl, -⟩, -⟩ := id hk5; have HK5 := Lib.hid hk5; clear hk5; obtain ⟨z0, z1, z2, z3, z4, z5, z6, z7, z8⟩ := relcells hm5.rl; obtain ⟨g0, g1, g2, g3, g4, g5, g6, g7, g8⟩ := relfrozen hm5.rl))
  go_end0
  have F := relStore_at hm5.rl ⟨ver, who, S.head, .slice A5 nd.length c5, nd, sm, n, sz, false, eB⟩
  have hbw : Below w.heap.size w w2 := bseq (Below.refl w.heap.size w).drew hb5
  have T1 : Turned [rb] w (relStore w2 rb ⟨ver, who, S.head, .slice A5 nd.length c5, nd, sm, n, sz, false, eB⟩) := (Turned.of_below hbw).trans (relStore_turned w2 rb _) (fun j hj => .inl hj)
  have K1 : KeepN w2 (relStore w2 rb ⟨ver, who, S.head, .slice A5 nd.length c5, nd, sm, n, sz, false, eB⟩) := relStore_keep hm5.rl _
  have K2 := (KeepN.below hbw).trans K1
  have HK6 := HK5.out.keep K1
  exact ⟨rfl, _, HK6, F, T1, K2⟩
end Go.Proofs.YtggdgjifhikmiaaGreatDoor
set_option linter.unusedVariables false
namespace Go.Proofs.YtggdgjifhikmiaaGreatDoor
open Go.RowKit Yk
theorem aput_map_same {α β : Type} {k : ByteArray} {u v : α} (g : α → β) (e : g v = g u) : ∀ {l : List (ByteArray × α)}, aget k l = some u → (aput k v l).map (fun x => (x.1, g x.2)) = l.map (fun x => (x.1, g x.2))
  | [], h => by cases h
  | x :: r, h => by
    unfold aget at h; unfold aput
    by_cases hk : x.1 = k
    · rw [if_pos hk] at h ⊢; cases h
      simp [hk, e]
    · rw [if_neg hk] at h ⊢
      simp [aput_map_same g e h]
theorem aput_flat_same {α β : Type} {k : ByteArray} {u v : α} (g : α → List β) (e : g v = g u) : ∀ {l : List (ByteArray × α)}, aget k l = some u → (aput k v l).flatMap (fun x => g x.2) = l.flatMap (fun x => g x.2)
  | [], h => by cases h
  | x :: r, h => by
    unfold aget at h; unfold aput
    by_cases hk : x.1 = k
    · rw [if_pos hk] at h ⊢; cases h
      simp [e]
    · rw [if_neg hk] at h ⊢
      simp [aput_flat_same g e h]
theorem aput_mem' {α : Type} {k : ByteArray} {v : α} {x : ByteArray × α} : ∀ {l : List (ByteArray × α)}, (l.map (·.1)).Nodup → x ∈ aput k v l → x = (k, v) ∨ (x ∈ l ∧ x.1 ≠ k)
  | [], _, h => by
    simp only [aput, List.mem_singleton] at h; exact .inl h
  | y :: r, hn, h => by
    simp only [List.map_cons, List.nodup_cons] at hn
    unfold aput at h
    by_cases e : y.1 = k
    · rw [if_pos e] at h
      cases h with
      | head => exact .inl rfl
      | tail _ h =>
        refine .inr ⟨.tail _ h, fun q => hn.1 ?_⟩
        rw [e, ← q]
        exact List.mem_map.2 ⟨x, h, rfl⟩
    · rw [if_neg e] at h
      cases h with
      | head => exact .inr ⟨.head _, e⟩
      | tail _ h =>
        rcases aput_mem' hn.2 h with h | ⟨h, h2⟩
        · exact .inl h
        · exact .inr ⟨.tail _ h, h2⟩
theorem flat_disj {α : Type} (f : α → List Nat) {x y : α} : ∀ {l : List α}, (l.flatMap f).Nodup → x ∈ l → y ∈ l → x ≠ y → ∀ i ∈ f x, i ∉ f y
  | [], _, h, _, _, _, _, _ => by cases h
  | a :: r, hn, hx, hy, hne, i, hi, hj => by
    simp only [List.flatMap_cons, List.nodup_append] at hn
    obtain ⟨_, h2, h3⟩ := hn
    cases hx with
    | head =>
      cases hy with
      | head => exact hne rfl
      | tail _ hy => exact h3 i hi i (List.mem_flatMap.2 ⟨y, hy, hj⟩) rfl
    | tail _ hx =>
      cases hy with
      | head => exact h3 i hj i (List.mem_flatMap.2 ⟨x, hx, hi⟩) rfl
      | tail _ hy => exact flat_disj f h2 hx hy hne i hi hj
theorem flat_nodup {α : Type} (f : α → List Nat) {x : α} : ∀ {l : List α}, (l.flatMap f).Nodup → x ∈ l → (f x).Nodup
  | [], _, h => by cases h
  | a :: r, hn, hx => by
    simp only [List.flatMap_cons, List.nodup_append] at hn
    cases hx with
    | head => exact hn.1
    | tail _ hx => exact flat_nodup f hn.2.1 hx
theorem keys_nodup {w : World} {b : Nat} {M : Ents} (h : MapIs w b M) : (M.map (·.1)).Nodup := by
  obtain ⟨es, c, _, ⟨_, _, h3⟩, hm⟩ := h
  have e1 : es.toList.map (·.key) = (M.map (·.1)).map Value.string := by
    have := congrArg (List.map Prod.fst) hm
    simpa [entOf, entV, Function.comp_def] using this
  rw [e1] at h3
  exact (List.pairwise_map.1 h3).imp (fun h e => h (by rw [e]))
def setPack (S : St) (n : ByteArray) (p : Pk) : St := { S with packs := aput n p S.packs }
def setRel (S : St) (n : ByteArray) (p : Pk) (v : ByteArray) (r : Rel) : St := setPack S n { p with rels := aput v r p.rels }
/-- a pack that is there turns -/
theorem StAt.setPack {w w' : World} {S : St} {n : ByteArray} {p q : Pk} (h : StAt w S) (hp : aget n S.packs = some p) (hi : q.pid = p.pid ∧ q.hid = p.hid ∧ q.rid = p.rid) (b : Nat) (hb : b ∈ p.ids) (ht : Turned [b] w w') (hK : KeepN w w') (hq : PkAt w' q) : StAt w' (setPack S n q) := by
  obtain ⟨f1, f2, f3⟩ := StAt.five h.nd
  obtain ⟨x0, hx0, hx1, hx2⟩ := aget_mem hp
  have hb5 : b ∉ [S.sid, S.aid, S.tid, S.kid, S.qid] := f2 x0 hx0 b (by rw [hx2]; exact hb)
  have hne : ∀ i, i ∈ [S.sid, S.aid, S.tid, S.kid, S.qid] → i ∉ [b] := fun i hi q => hb5 (by simp only [List.mem_singleton] at q; rw [← q]; exact hi)
  have hids : q.ids = p.ids := by unfold Pk.ids; rw [hi.1, hi.2.1, hi.2.2]
  have hk : (S.packs.map (·.1)).Nodup := by
    have := keys_nodup h.pk
    unfold St.kE at this
    simpa [Function.comp_def] using this
  have hnd := h.nd
  refine ⟨(ht.block _ (Array.getElem?_eq_some_iff.1 h.hd).1 (hne _ (by simp))).trans h.hd, h.ac.block (ht.block _ h.ac.lt (hne _ (by simp))), h.te.block (ht.block _ h.te.lt (hne _ (by simp))), ?_, h.sq.block (ht.block _ h.sq.lt (hne _ (by simp))), fun x hx => ?_, fun x hx => ?_, ?_⟩
  · have e : (Go.Proofs.YtggdgjifhikmiaaGreatDoor.setPack S n q).kE = S.kE := aput_map_same (fun p : Pk => Value.pointer (some ⟨p.pid, 0, none⟩)) (by rw [hi.1]) hp
    rw [e]
    exact h.pk.block (ht.block _ h.pk.lt (hne _ (by simp)))
  · refine (h.tms x hx).block (ht.block _ (h.tms x hx).lt ?_)
    intro q
    simp only [List.mem_singleton] at q
    exact f3 x0 hx0 b (by rw [hx2]; exact hb) x hx q.symm
  · rcases aput_mem' hk hx with rfl | ⟨hx, hxk⟩
    · exact hq
    · refine (h.pks x hx).turned ht hK ?_
      unfold St.ids at hnd
      rw [List.nodup_append] at hnd
      intro hbx
      exact flat_disj (fun x : ByteArray × Pk => x.2.ids) hnd.2.1 hx0 hx (fun e => hxk (by rw [← e]; exact hx1)) b (by rw [hx2]; exact hb) hbx
  · have e : (Go.Proofs.YtggdgjifhikmiaaGreatDoor.setPack S n q).ids = S.ids := by
      unfold St.ids
      have := aput_flat_same (fun p : Pk => p.ids) hids hp
      show _ ++ (aput n q S.packs).flatMap (fun x => x.2.ids) = _
      rw [this]; rfl
    rw [e]; exact hnd
theorem PkAt.setRel {w : World} {p : Pk} (h : PkAt w p) (v : ByteArray) (r : Rel) (hr : NeedsK w r.nv r.needs) (es : Array MapEntry) (c : Nat) (hm : ∀ w', w'.heap[p.rid]? = some (.map es c) → MapIs w' p.rid (mput v (.agg (relCells r)) (relEnts p.rels))) (hd : p.rid ≠ p.pid) (hh : p.rid ≠ p.hid) :
    PkAt (setBlk w p.rid (.map es c)) { p with rels := aput v r p.rels } := by
  obtain ⟨es0, c0, hb0, _⟩ := id h.re
  have hK : KeepN w (setBlk w p.rid (.map es c)) := keepN_map h.re _
  refine ⟨(setBlk_other hd.symm).trans h.hd, h.ho.block (setBlk_other hh.symm), ?_, fun x hx => ?_⟩
  · have := hm _ (setBlk_same hb0)
    unfold relEnts at this ⊢
    rwa [mput_map (fun x : Rel => Value.agg (relCells x))] at this
  · rcases aput_mem hx with rfl | hx
    · exact hr.keep hK
    · exact (h.nd x hx).keep hK
theorem StAt.packApart {w : World} {S : St} (h : StAt w S) {n : ByteArray} {p : Pk} (hp : aget n S.packs = some p) : p.pid ≠ p.hid ∧ p.pid ≠ p.rid ∧ p.hid ≠ p.rid := by
  obtain ⟨x0, hx0, hx1, hx2⟩ := aget_mem hp
  have hnd := h.nd
  unfold St.ids at hnd
  rw [List.nodup_append] at hnd
  have h2 := hnd.2.1
  have : p.ids.Nodup := by
    have := flat_nodup (fun x : ByteArray × Pk => x.2.ids) h2 hx0
    rwa [hx2] at this
  unfold Pk.ids at this
  simp at this
  exact ⟨this.1.1, this.1.2, this.2⟩
end Go.Proofs.YtggdgjifhikmiaaGreatDoor
set_option linter.unusedVariables false
namespace Go.Proofs.YtggdgjifhikmiaaGreatDoor
open Go.RowKit Yk
/-- what release reads -/
structure RM (S : St) (b : Nat) (e : Ev) (nv : Value) (nm : ByteArray) (p : Pk) (x : World) : Prop where
  st : StAt x S
  ev : x.heap[b]? = some (.cells (evCells e nv) 36 (0, 0))
  pk : aget nm S.packs = some p
abbrev RMs (S : St) (b : Nat) (e : Ev) (p : Pk) (r : Rel) (x : World) : Prop :=
  x.cell? ⟨b, 3, none⟩ = some (.string e.ver) ∧ x.cell? ⟨p.pid, 2, none⟩ = some (.map (some p.rid)) ∧ (Instr.lookup 92 (.map (some p.rid)) (.string e.ver) false).run Tryz.prog x = .ok (.agg (relCells r)) x
section
variable {S : St} {b : Nat} {e : Ev} {nv : Value} {nm : ByteArray} {p : Pk} {x y : World}
theorem RM.next (hb : Below x.heap.size x y) (h : RM S b e nv nm p x) : RM S b e nv nm p y := ⟨h.st.next hb, (hb.block _ (Array.getElem?_eq_some_iff.1 h.ev).1).trans h.ev, h.pk⟩
theorem RM.drewN (h : RM S b e nv nm p x) (n : Nat) : RM S b e nv nm p (x.drewN n) := h.next (below_drewN'' x n)
theorem RM.drew (h : RM S b e nv nm p x) : RM S b e nv nm p x.drew := h.next ((Below.refl _ _).drew)
theorem RM.alloc (h : RM S b e nv nm p x) (o : Obj) : RM S b e nv nm p (x.alloc o) := h.next ((Below.refl _ _).alloc (Nat.le_refl _) o)
theorem RM.all {r : Rel} (hr : (aget e.ver p.rels).getD zeroRel = r) (h : RM S b e nv nm p x) : RMs S b e p r x := by
  subst hr
  obtain ⟨e0, e1, e2, e3, e4, e5, e6, e7, e8, e9⟩ := evcells h.ev
  have hp := h.st.pkAt h.pk
  exact ⟨e3, hp.cells.2.2, by simpa using lkR hp e.ver false⟩
end
set_option maxHeartbeats 4000000 in
set_option maxRecDepth 100000 in
theorem releasePub_any (k : Int) (who nm ver hold note : ByteArray) (nd : List (ByteArray × ByteArray)) (sm n sz : Int) (nv : Value) (S : St) (p : Pk) (eb sb : Nat) (w : World)
    (h : StAt w S) (hn : NeedsAt w nv nd) (hp : aget nm S.packs = some p)
    (hev : w.heap[eb]? = some (.cells (evCells ⟨k, who, nm, ver, nd, sm, n, sz, hold, note⟩ nv) 36 (0, 0))) (hbx : w.cell? ⟨sb, 0, none⟩ = some (ptr S.sid)) (hsl : sb < w.heap.size) :
    Calls Tryz.prog 92 #[ptr S.sid, .agg (evCells ⟨k, who, nm, ver, nd, sm, n, sz, hold, note⟩ nv), .func (.func 93) #[] #[ptr eb, ptr sb]] w fun e w' =>
      e = noRet ∧ ∃ nv', StAt w' (setRel S nm p ver (newRel S ⟨k, who, nm, ver, nd, sm, n, sz, hold, note⟩ nv')) ∧ Turned [p.rid] w w' ∧ KeepN w w' := by
  obtain ⟨A, cp, rfl, _⟩ := id hn
  have hb1 : Below w.heap.size w (w.alloc (.cells (evCells ⟨k, who, nm, ver, nd, sm, n, sz, hold, note⟩ (.slice A nd.length cp)) 36)) := (Below.refl _ _).alloc (Nat.le_refl _) _
  have h0 := h.next hb1
  obtain ⟨c0, c1, c2, c3, c4⟩ := h0.cells
  have lK := fun m => lkK (h0.drew m) nm
  rw [hp] at lK
  simp only [Option.map_some] at lK
  have hpk0 := h0.pkAt hp
  obtain ⟨d0, d1, d2⟩ := hpk0.cells
  obtain ⟨⟨ver1, by1, at1, nv1, nd1, sum1, n1, sz1, yk1, note1⟩, hr1⟩ : ∃ q, (aget ver p.rels).getD zeroRel = q := ⟨_, rfl⟩
  have hnk1 := (relOf_needs h0 hp ver).2
  rw [hr1] at hnk1
  obtain ⟨⟨A1, cc1, hA1, _⟩, _⟩ := id hnk1
  simp only at hA1
  subst hA1
  have LR : Hid (∀ m, (Instr.lookup 92 (.map (some p.rid)) (.string ver) false).run Tryz.prog ((w.alloc (.cells (evCells ⟨k, who, nm, ver, nd, sm, n, sz, hold, note⟩ (.slice A nd.length cp)) 36)).drewN m) = .ok (.agg (relCells ⟨ver1, by1, at1, .slice A1 nd1.length cc1, nd1, sum1, n1, sz1, yk1, note1⟩)) ((w.alloc (.cells (evCells ⟨k, who, nm, ver, nd, sm, n, sz, hold, note⟩ (.slice A nd.length cp)) 36)).drewN m)) := Lib.hid (fun m => by
    have := lkR ((h0.drew m).pkAt hp) ver false
    rw [hr1] at this
    simpa using this)
  have HS0 := Lib.hid h
  have ap := h.packApart hp
  have HH := Lib.hid h0; have HN := Lib.hid hn; have HP := Lib.hid hp; have HEV := Lib.hid hev; have HBX := Lib.hid hbx; have HSL := Lib.hid hsl; have HB1 := Lib.hid hb1
  have HR1 := Lib.hid hr1
  clear h0 hn hp hev hbx hsl hr1 hnk1 hpk0 h hb1
  unfold evCells
  have lR := LR.out
  go_enter Tryz.func92, Tryz.ntmps92
  go_wp2
  go_quiet (fail)
  go_wp2
  have HRM : Hid (RM S w.heap.size ⟨k, who, nm, ver, nd, sm, n, sz, hold, note⟩ (.slice A nd.length cp) nm p _) := Lib.hid ⟨HH.out, heap_alloc_new _ _, HP.out⟩
  go_region_held3 (fun x => x.cell? ⟨w.heap.size, 3, none⟩ = some (.string ver) ∧ x.cell? ⟨p.pid, 2, none⟩ = some (.map (some p.rid)) ∧ (Instr.lookup 92 (.map (some p.rid)) (.string ver) false).run Tryz.prog x = .ok (.agg (relCells ⟨ver1, by1, at1, .slice A1 nd1.length cc1, nd1, sum1, n1, sz1, yk1, note1⟩)) x)
    ((first | with_reducible exact RM.all HR1.out ((HRM.out.drewN nq).drew) | with_reducible exact RM.all HR1.out (((HRM.out.drewN nq).drew).alloc _) | exact RM.all HR1.out ((HRM.out.drewN nq).drew) | exact RM.all HR1.out (((HRM.out.drewN nq).drew).alloc _)))
    (fail)
  all_goals
    have hb2 : Below w.heap.size w (((w.alloc (.cells (evCells ⟨k, who, nm, ver, nd, sm, n, sz, hold, note⟩ (.slice A nd.length cp)) 36)).drewN (nq + 1)).alloc (.cells (relCells ⟨ver1, by1, at1, .slice A1 nd1.length cc1, nd1, sum1, n1, sz1, yk1, note1⟩) 64)) := (bseq HB1.out (below_drewN'' _ _)).alloc (by simp) _
    have hrl := hp_new ((w.alloc (.cells (evCells ⟨k, who, nm, ver, nd, sm, n, sz, hold, note⟩ (.slice A nd.length cp)) 36)).drewN (nq + 1)) (.cells (relCells ⟨ver1, by1, at1, .slice A1 nd1.length cc1, nd1, sum1, n1, sz1, yk1, note1⟩) 64) (w.heap.size + 1) (by simp)
    have hpm : PM S eb sb (w.heap.size + 1) ⟨k, who, nm, ver, nd, sm, n, sz, hold, note⟩ (.slice A nd.length cp) ⟨ver1, by1, at1, .slice A1 nd1.length cc1, nd1, sum1, n1, sz1, yk1, note1⟩ _ :=
      ⟨((HH.out.drew (nq + 1)).next ((Below.refl _ _).alloc (Nat.le_refl _) _)), (hb2.block _ (Array.getElem?_eq_some_iff.1 HEV.out).1).trans HEV.out, (cell_block (hb2.block _ HSL.out)).trans HBX.out, Nat.lt_of_lt_of_le HSL.out hb2.size, hrl⟩
    have hnn := HN.out.below hb2
    have q1 : w.heap.size + 1 ≠ eb := by have := (Array.getElem?_eq_some_iff.1 HEV.out).1; omega
    have q2 : w.heap.size + 1 ≠ sb := by have := HSL.out; omega
    have q3 : w.heap.size + 1 ≠ S.sid := by have := (Array.getElem?_eq_some_iff.1 HS0.out.hd).1; omega
    have HPM := Lib.hid hpm; have HRL := Lib.hid hrl; have HB2 := Lib.hid hb2
    clear hpm hrl hb2
    go_wp2_with (go_at_call 93; refine (pubTurn_any k who nm ver hold note nd sm n sz (.slice A nd.length cp) S eb sb (w.heap.size + 1) _ _ HPM.out hnn q1 q2 q3).mono ?_)
    rintro e w3 ⟨rfl, nv', hk3, hrl3, ht3, hkn3⟩
    have h3 : StAt w3 S := StAt.other HPM.out.st HRL.out (by decide) (by decide) ht3 hkn3
    have E3 := (ht3.block w.heap.size (by simp <;> omega) (by simp)).trans ((hp_old _ _ _ (by simp)).trans (heap_alloc_new w (.cells (evCells ⟨k, who, nm, ver, nd, sm, n, sz, hold, note⟩ (.slice A nd.length cp)) 36)))
    obtain ⟨e0, e1, e2, e3, e4, e5, e6, e7, e8, e9⟩ := evcells E3
    have hpk3 := h3.pkAt HP.out
    obtain ⟨x0, x1, x2⟩ := hpk3.cells
    obtain ⟨⟨A7, c7, rfl, -⟩, -⟩ := id hk3
    obtain ⟨y0, y1, y2, y3, y4, y5, y6, y7, y8⟩ := relcells hrl3
    obtain ⟨es, cl, hput, hm⟩ := hpk3.re.put Tryz.underlying92 Tryz.underlying9 ver (.agg (relCells (newRel S ⟨k, who, nm, ver, nd, sm, n, sz, hold, note⟩ (.slice A7 nd.length c7))))
    have hpd := hput w3.drew rfl
    unfold newRel at hpd y0 y1 y2 y3 y4 y5 y6 y7 y8
    simp only at hpd y0 y1 y2 y3 y4 y5 y6 y7 y8
    have HPK := Lib.hid hpk3; have HMM := Lib.hid hm; have H3 := Lib.hid h3; have HT3 := Lib.hid ht3; have HKN3 := Lib.hid hkn3; have HK3 := Lib.hid hk3
    clear hput hm hpk3 h3 ht3 hkn3 hk3 E3 hrl3 c0 c1 c2 c3 c4 d0 d1 d2 lK lR
    go_wp2
    go_region
    go_end0
    have B3 : Below w3.heap.size w3 w3.drew := (Below.refl _ _).drew
    have hq := (HPK.out.next B3).setRel ver (newRel S ⟨k, who, nm, ver, nd, sm, n, sz, hold, note⟩ (.slice A7 nd.length c7)) (HK3.out.keep (KeepN.below B3)) es cl HMM.out ap.2.1.symm ap.2.2.symm
    have hst := StAt.setPack (q := { p with rels := aput ver (newRel S ⟨k, who, nm, ver, nd, sm, n, sz, hold, note⟩ (.slice A7 nd.length c7)) p.rels }) (H3.out.next B3) HP.out ⟨rfl, rfl, rfl⟩ p.rid (by simp [Pk.ids]) (Turned.setBlk _) (keepN_map (HPK.out.next B3).re _) hq
    have T1 : Turned [p.rid] w w3 := (Turned.of_below HB2.out).trans HT3.out (fun j hj => .inr (by simp only [List.mem_singleton] at hj; omega))
    have T2 : Turned [p.rid] w (setBlk w3.drew p.rid (.map es cl)) := (T1.more (Turned.of_below B3)).more (Turned.setBlk _)
    exact ⟨rfl, _, hst, T2, ((KeepN.below HB2.out).trans HKN3.out).trans ((KeepN.below B3).trans (keepN_map (HPK.out.next B3).re _))⟩
end Go.Proofs.YtggdgjifhikmiaaGreatDoor
set_option linter.unusedVariables false
namespace Go.Proofs.YtggdgjifhikmiaaGreatDoor
open Go.RowKit Yk
theorem aput_none {α : Type} {k : ByteArray} {v : α} : ∀ {l : List (ByteArray × α)}, aget k l = none → aput k v l = l ++ [(k, v)]
  | [], _ => rfl
  | x :: r, h => by
    unfold aget at h; unfold aput
    by_cases hk : x.1 = k
    · rw [if_pos hk] at h; cases h
    · rw [if_neg hk] at h ⊢
      rw [aput_none h]; rfl
theorem aget_aput {α : Type} (k : ByteArray) (v : α) : ∀ (l : List (ByteArray × α)), aget k (aput k v l) = some v
  | [] => by simp [aput, aget]
  | x :: r => by
    unfold aput
    by_cases hk : x.1 = k
    · simp [hk, aget]
    · simp [hk, aget, aget_aput k v r]
theorem StAt.ids_lt {w : World} {S : St} (h : StAt w S) : ∀ i ∈ S.ids, i < w.heap.size := by
  intro i hi
  unfold St.ids at hi
  simp only [List.mem_append, List.mem_cons, List.not_mem_nil, or_false, List.mem_map, List.mem_flatMap] at hi
  rcases hi with ((rfl | rfl | rfl | rfl | rfl) | ⟨x, hx, rfl⟩) | ⟨x, hx, hi⟩
  · exact (Array.getElem?_eq_some_iff.1 h.hd).1
  · exact h.ac.lt
  · exact h.te.lt
  · exact h.pk.lt
  · exact h.sq.lt
  · exact (h.tms x hx).lt
  · have hp := h.pks x hx
    simp only [Pk.ids, List.mem_cons, List.not_mem_nil, or_false] at hi
    rcases hi with rfl | rfl | rfl
    · exact (Array.getElem?_eq_some_iff.1 hp.hd).1
    · exact hp.ho.lt
    · exact hp.re.lt
def withPack (S : St) (n : ByteArray) (p : Pk) : St := { S with packs := aput n p S.packs }
theorem StAt.withPack {w w' : World} {S : St} {n : ByteArray} {p : Pk} (h : StAt w S) (hp : aget n S.packs = none) (hi : p.ids.Nodup) (hf : ∀ i ∈ p.ids, w.heap.size ≤ i) (ht : Turned [S.kid] w w') (hK : KeepN w w') (hq : PkAt w' p) (hm : MapIs w' S.kid (mput n (ptr p.pid) S.kE)) : StAt w' (withPack S n p) := by
  obtain ⟨a1, a2, a3, a4, b1, b2, b3, c1, c2, d1⟩ := h.apart
  obtain ⟨g1, g2⟩ := h.turn5 (b := S.kid) (by simp) ht hK
  have hl := h.ids_lt
  have hne : ∀ i, i ≠ S.kid → i ∉ [S.kid] := fun i hi => by simpa using hi
  refine ⟨(ht.block _ (Array.getElem?_eq_some_iff.1 h.hd).1 (hne _ a3.symm)).trans h.hd, h.ac.block (ht.block _ h.ac.lt (hne _ b2)), h.te.block (ht.block _ h.te.lt (hne _ c1)), ?_, h.sq.block (ht.block _ h.sq.lt (hne _ d1.symm)), g1, fun x hx => ?_, ?_⟩
  · unfold St.kE at hm
    rwa [mput_map (fun x : Pk => Value.pointer (some ⟨x.pid, 0, none⟩))] at hm
  · rcases aput_mem hx with rfl | hx
    · exact hq
    · exact g2 x hx
  · have e : (Go.Proofs.YtggdgjifhikmiaaGreatDoor.withPack S n p).ids = S.ids ++ p.ids := by
      unfold St.ids
      show _ ++ (aput n p S.packs).flatMap (fun x => x.2.ids) = _
      rw [aput_none hp]
      simp [Go.Proofs.YtggdgjifhikmiaaGreatDoor.withPack]
    rw [e, List.nodup_append]
    exact ⟨h.nd, hi, fun a ha b hb e => by have := hl a ha; have := hf b hb; omega⟩
/-- the squash of a name is kept -/
def withSquash (S : St) (q n : ByteArray) : St := { S with squashes := aput q n S.squashes }
theorem StAt.withSquash {w w' : World} {S : St} {q n : ByteArray} (h : StAt w S) (ht : Turned [S.qid] w w') (hK : KeepN w w') (hm : MapIs w' S.qid (mput q (.string n) S.qE)) : StAt w' (withSquash S q n) := by
  obtain ⟨a1, a2, a3, a4, b1, b2, b3, c1, c2, d1⟩ := h.apart
  obtain ⟨g1, g2⟩ := h.turn5 (b := S.qid) (by simp) ht hK
  have hne : ∀ i, i ≠ S.qid → i ∉ [S.qid] := fun i hi => by simpa using hi
  refine ⟨(ht.block _ (Array.getElem?_eq_some_iff.1 h.hd).1 (hne _ a4.symm)).trans h.hd, h.ac.block (ht.block _ h.ac.lt (hne _ b3)), h.te.block (ht.block _ h.te.lt (hne _ c2)), h.pk.block (ht.block _ h.pk.lt (hne _ d1)), ?_, g1, g2, h.nd⟩
  unfold St.qE at hm
  rwa [mput_map (fun x : ByteArray => Value.string x)] at hm
def newPk (pid hid rid : Nat) (who : ByteArray) : Pk := { pid := pid, hid := hid, rid := rid, holders := [who], touched := 0, rels := [] }
abbrev M0 : Obj := .map #[] 0
abbrev M1 (who : ByteArray) : Obj := .map #[{ key := .string who, val := .bool true, born := 0 }] 1
abbrev PO (hid rid : Nat) : Obj := .cells #[.map (some hid), .int .i64 0, .map (some rid)] 94
theorem newPk_at {X : World} {pid hid rid : Nat} {who : ByteArray} (f1 : X.heap[hid]? = some (M1 who)) (f2 : X.heap[rid]? = some M0) (f3 : X.heap[pid]? = some (PO hid rid)) : PkAt X (newPk pid hid rid who) :=
  ⟨f3, ⟨_, _, f1, by simp [MapKept.Stamped], rfl⟩, ⟨_, _, f2, MapKept.stamped_empty 0, rfl⟩, fun x hx => by cases hx⟩
structure Mid (W1 X : World) (kid : Nat) (es : Array MapEntry) (cl : Nat) (p : Pk) : Prop where
  t : Turned [kid] W1 X
  k : KeepN W1 X
  p : PkAt X p
  m : X.heap[kid]? = some (.map es cl)
theorem mapNot (es : Array MapEntry) (c : Nat) : ∀ cs fz, Obj.map es c ≠ .cells cs 47 fz := fun _ _ => by simp
section
variable {W1 : World} {kid : Nat} {es es0 : Array MapEntry} {cl c0 : Nat} {who : ByteArray}
theorem midA (h : W1.heap[kid]? = some (.map es0 c0)) : Mid W1 (setBlk (((setBlk (W1.alloc M0).drew W1.heap.size (M1 who)).alloc M0).alloc (PO W1.heap.size (W1.heap.size + 1))) kid (.map es cl)) kid es cl (newPk (W1.heap.size + 2) W1.heap.size (W1.heap.size + 1) who) := by
  have hl : kid < W1.heap.size := (Array.getElem?_eq_some_iff.1 h).1
  have y1 : (W1.alloc M0).drew.heap[W1.heap.size]? = some M0 := hp_new W1 _ _ rfl
  have y2 := setBlk_same (o' := M1 who) y1
  have z1 : ((setBlk (W1.alloc M0).drew W1.heap.size (M1 who)).alloc M0).heap[W1.heap.size]? = some (M1 who) := (hp_old _ _ _ (by simp)).trans y2
  have z2 : ((setBlk (W1.alloc M0).drew W1.heap.size (M1 who)).alloc M0).heap[W1.heap.size + 1]? = some M0 := hp_new _ _ _ (by simp)
  have zk : (((setBlk (W1.alloc M0).drew W1.heap.size (M1 who)).alloc M0).alloc (PO W1.heap.size (W1.heap.size + 1))).heap[kid]? = some (.map es0 c0) :=
    (hp_old _ _ _ (by simp; omega)).trans ((hp_old _ _ _ (by simp; omega)).trans ((setBlk_other (by omega)).trans ((hp_old W1 _ _ hl).trans h)))
  have t1 : Turned [kid] W1 (W1.alloc M0).drew := Turned.of_below ((Below.refl _ _).alloc (Nat.le_refl _) _).drew
  have t2 := t1.trans (Turned.setBlk (b := W1.heap.size) (M1 who)) (fun j hj => .inr (by simp only [List.mem_singleton] at hj; omega))
  have b2 := ((Below.refl _ (setBlk (W1.alloc M0).drew W1.heap.size (M1 who))).alloc (Nat.le_refl _) M0).alloc (by simp) (PO W1.heap.size (W1.heap.size + 1))
  have k1 : KeepN W1 (W1.alloc M0).drew := KeepN.below ((Below.refl _ _).alloc (Nat.le_refl _) _).drew
  have k2 := k1.trans (KeepN.setBlk (o' := M1 who) y1 (mapNot _ _))
  refine ⟨(t2.more (Turned.of_below b2)).more (Turned.setBlk _), (k2.trans (KeepN.below b2)).trans (KeepN.setBlk zk (mapNot _ _)), newPk_at ?_ ?_ ?_, setBlk_same zk⟩
  · exact (setBlk_other (by omega)).trans ((hp_old _ _ _ (by simp <;> omega)).trans z1)
  · exact (setBlk_other (by omega)).trans ((hp_old _ _ _ (by simp <;> omega)).trans z2)
  · exact (setBlk_other (by omega)).trans (hp_new _ _ _ (by simp))
theorem midB (h : W1.heap[kid]? = some (.map es0 c0)) : Mid W1 (setBlk ((setBlk ((W1.alloc M0).alloc M0).drew W1.heap.size (M1 who)).alloc (PO W1.heap.size (W1.heap.size + 1))) kid (.map es cl)) kid es cl (newPk (W1.heap.size + 2) W1.heap.size (W1.heap.size + 1) who) := by
  have hl : kid < W1.heap.size := (Array.getElem?_eq_some_iff.1 h).1
  have y1 : ((W1.alloc M0).alloc M0).drew.heap[W1.heap.size]? = some M0 := (hp_old (W1.alloc M0) _ _ (by simp)).trans (hp_new W1 _ _ rfl)
  have y3 : ((W1.alloc M0).alloc M0).drew.heap[W1.heap.size + 1]? = some M0 := hp_new (W1.alloc M0) _ _ (by simp)
  have y2 := setBlk_same (o' := M1 who) y1
  have zk : ((setBlk ((W1.alloc M0).alloc M0).drew W1.heap.size (M1 who)).alloc (PO W1.heap.size (W1.heap.size + 1))).heap[kid]? = some (.map es0 c0) :=
    (hp_old _ _ _ (by simp; omega)).trans ((setBlk_other (by omega)).trans ((hp_old (W1.alloc M0) _ _ (by simp; omega)).trans ((hp_old W1 _ _ hl).trans h)))
  have bb := (((Below.refl _ W1).alloc (Nat.le_refl _) M0).alloc (by simp) M0).drew
  have t2 := (Turned.of_below (I := [kid]) bb).trans (Turned.setBlk (b := W1.heap.size) (M1 who)) (fun j hj => .inr (by simp only [List.mem_singleton] at hj; omega))
  have b2 := (Below.refl _ (setBlk ((W1.alloc M0).alloc M0).drew W1.heap.size (M1 who))).alloc (Nat.le_refl _) (PO W1.heap.size (W1.heap.size + 1))
  have k2 := (KeepN.below bb).trans (KeepN.setBlk (o' := M1 who) y1 (mapNot _ _))
  refine ⟨(t2.more (Turned.of_below b2)).more (Turned.setBlk _), (k2.trans (KeepN.below b2)).trans (KeepN.setBlk zk (mapNot _ _)), newPk_at ?_ ?_ ?_, setBlk_same zk⟩
  · exact (setBlk_other (by omega)).trans ((hp_old _ _ _ (by simp <;> omega)).trans y2)
  · exact (setBlk_other (by omega)).trans ((hp_old _ _ _ (by simp <;> omega)).trans ((setBlk_other (by omega)).trans y3))
  · exact (setBlk_other (by omega)).trans (hp_new _ _ _ (by simp))
theorem midC (h : W1.heap[kid]? = some (.map es0 c0)) : Mid W1 (setBlk ((setBlk ((W1.alloc M0).alloc M0).drew (W1.heap.size + 1) (M1 who)).alloc (PO (W1.heap.size + 1) W1.heap.size)) kid (.map es cl)) kid es cl (newPk (W1.heap.size + 2) (W1.heap.size + 1) W1.heap.size who) := by
  have hl : kid < W1.heap.size := (Array.getElem?_eq_some_iff.1 h).1
  have y1 : ((W1.alloc M0).alloc M0).drew.heap[W1.heap.size]? = some M0 := (hp_old (W1.alloc M0) _ _ (by simp)).trans (hp_new W1 _ _ rfl)
  have y3 : ((W1.alloc M0).alloc M0).drew.heap[W1.heap.size + 1]? = some M0 := hp_new (W1.alloc M0) _ _ (by simp)
  have y2 := setBlk_same (o' := M1 who) y3
  have zk : ((setBlk ((W1.alloc M0).alloc M0).drew (W1.heap.size + 1) (M1 who)).alloc (PO (W1.heap.size + 1) W1.heap.size)).heap[kid]? = some (.map es0 c0) :=
    (hp_old _ _ _ (by simp; omega)).trans ((setBlk_other (by omega)).trans ((hp_old (W1.alloc M0) _ _ (by simp; omega)).trans ((hp_old W1 _ _ hl).trans h)))
  have bb := (((Below.refl _ W1).alloc (Nat.le_refl _) M0).alloc (by simp) M0).drew
  have t2 := (Turned.of_below (I := [kid]) bb).trans (Turned.setBlk (b := W1.heap.size + 1) (M1 who)) (fun j hj => .inr (by simp only [List.mem_singleton] at hj; omega))
  have b2 := (Below.refl _ (setBlk ((W1.alloc M0).alloc M0).drew (W1.heap.size + 1) (M1 who))).alloc (Nat.le_refl _) (PO (W1.heap.size + 1) W1.heap.size)
  have k2 := (KeepN.below bb).trans (KeepN.setBlk (o' := M1 who) y3 (mapNot _ _))
  refine ⟨(t2.more (Turned.of_below b2)).more (Turned.setBlk _), (k2.trans (KeepN.below b2)).trans (KeepN.setBlk zk (mapNot _ _)), newPk_at ?_ ?_ ?_, setBlk_same zk⟩
  · exact (setBlk_other (by omega)).trans ((hp_old _ _ _ (by simp <;> omega)).trans y2)
  · exact (setBlk_other (by omega)).trans ((hp_old _ _ _ (by simp <;> omega)).trans ((setBlk_other (by omega)).trans y1))
  · exact (setBlk_other (by omega)).trans (hp_new _ _ _ (by simp))
end
end Go.Proofs.YtggdgjifhikmiaaGreatDoor
