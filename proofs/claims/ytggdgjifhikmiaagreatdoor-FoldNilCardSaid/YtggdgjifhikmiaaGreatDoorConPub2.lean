/- Contract of fold.publish. -/
import Derived.Test.YtggdgjifhikmiaaGreatDoorConPub3
import Derived.WideMake
set_option linter.unusedVariables false
namespace Go.Proofs.YtggdgjifhikmiaaGreatDoor
open Go.RowKit Yk
set_option maxHeartbeats 4000000 in
set_option maxRecDepth 100000 in
theorem publishOld_any (k : Int) (who nm ver hold note : ByteArray) (nd : List (ByteArray × ByteArray)) (sm n sz : Int) (nv : Value) (S : St) (p : Pk) (w : World)
    (h : StAt w S) (hn : NeedsAt w nv nd) (hp : aget nm S.packs = some p) :
    Calls Tryz.prog 39 #[ptr S.sid, .agg (evCells ⟨k, who, nm, ver, nd, sm, n, sz, hold, note⟩ nv)] w fun e w' =>
      e = noRet ∧ ∃ nv', StAt w' (setRel S nm p ver (newRel S ⟨k, who, nm, ver, nd, sm, n, sz, hold, note⟩ nv')) ∧ Turned [p.rid] w w' ∧ KeepN w w' := by
  obtain ⟨A, cp, rfl, _⟩ := id hn
  have hb1 : Below w.heap.size w ((w.alloc (.cells #[ptr S.sid] 23)).alloc (.cells (evCells ⟨k, who, nm, ver, nd, sm, n, sz, hold, note⟩ (.slice A nd.length cp)) 36)) := ((Below.refl _ _).alloc (Nat.le_refl _) _).alloc (by simp) _
  have h0 := h.next hb1
  obtain ⟨c0, c1, c2, c3, c4⟩ := h0.cells
  have lK := fun m => lkK (h0.drew m) nm
  rw [hp] at lK
  simp only [Option.map_some] at lK
  have HH := Lib.hid h0; have HN := Lib.hid hn; have HP := Lib.hid hp; have HB1 := Lib.hid hb1
  clear h0 hn hp h hb1
  unfold evCells
  go_enter Tryz.func39, Tryz.ntmps39
  go_wp2
  go_quiet (fail)
  have B2 := bseq HB1.out (below_drewN'' _ nq)
  have al := alloc2 w (.cells #[ptr S.sid] 23) (.cells (evCells ⟨k, who, nm, ver, nd, sm, n, sz, hold, note⟩ (.slice A nd.length cp)) 36)
  have bx : (((w.alloc (.cells #[ptr S.sid] 23)).alloc (.cells (evCells ⟨k, who, nm, ver, nd, sm, n, sz, hold, note⟩ (.slice A nd.length cp)) 36)).drewN nq).cell? ⟨w.heap.size, 0, none⟩ = some (ptr S.sid) := (cells_of_block al.1 0)
  have AL := Lib.hid al; have BX := Lib.hid bx; have HB2 := Lib.hid B2
  clear al bx B2
  go_wp2_with (go_at_call 92; refine (releasePub_any k who nm ver hold note nd sm n sz (.slice A nd.length cp) S p (w.heap.size + 1) w.heap.size _ (HH.out.drew nq) (HN.out.below HB2.out) HP.out AL.out.2 BX.out (by simp; omega)).mono ?_)
  rintro e w2 ⟨rfl, nv', hst, ht, hk⟩
  go_wp2
  go_end0
  exact ⟨rfl, nv', hst, (Turned.of_below HB2.out).more ht, (KeepN.below HB2.out).trans hk⟩
def addPack (S : St) (n : ByteArray) (p : Pk) : St := withSquash (withPack S n p) (mk ((squash (bs n)).getD [])) n
theorem insFirst (b : Nat) (who : ByteArray) (W : World) (h : W.heap[b]? = some (.map #[] 0)) : (Instr.mapUpdate 91 (.map (some b)) (.string who) (.bool true)).run Tryz.prog W = .ok () (setBlk W b (.map #[{ key := .string who, val := .bool true, born := 0 }] 1)) :=
  run_mapUpdate_first (P := Tryz.prog) (w := W) 91 _ _ b 0 who (.bool true) Tryz.underlying91 Tryz.underlying9 h
theorem cell_not_map {w : World} {b : Nat} {M : Ents} (h : MapIs w b M) {o : Nat} {v : Value} (hc : w.cell? ⟨b, o, none⟩ = some v) : False := by
  obtain ⟨es, c, hb, _⟩ := h
  unfold World.cell? at hc
  rw [hb] at hc
  simp at hc
/-- needs are as they were where only maps have turned -/
theorem needs_turned {I : List Nat} {w w' : World} {v : Value} {xs : List (ByteArray × ByteArray)} (h : NeedsAt w v xs) (ht : Turned I w w') (hI : ∀ i ∈ I, ∀ {o : Nat} {u : ByteArray}, w.cell? ⟨i, o, none⟩ = some (.string u) → False) : NeedsAt w' v xs := by
  obtain ⟨A, c, rfl, hm, hx, ha⟩ := h
  refine ⟨A, c, rfl, hm, hx, fun h0 => ?_⟩
  obtain ⟨b, off, hA, hlt, hc⟩ := ha h0
  have hb := ht.block b hlt (fun q => hI b q (hc 0 h0).1)
  exact ⟨b, off, hA, Nat.lt_of_lt_of_le hlt ht.size, fun j hj => by rw [cell_block hb, cell_block hb]; exact hc j hj⟩
structure FP (S : St) (nm : ByteArray) (p : Pk) (a : Nat) (e : Ev) (nv : Value) (x : World) : Prop where
  st : StAt x (withPack S nm p)
  bx : x.heap[a]? = some (.cells #[ptr S.sid] 23 (0, 0))
  ev : x.heap[a + 1]? = some (.cells (evCells e nv) 36 (0, 0))
structure FQ (S : St) (nm : ByteArray) (p : Pk) (q : ByteArray) (a : Nat) (e : Ev) (nv : Value) (x : World) : Prop where
  st : StAt x (withSquash (withPack S nm p) q nm)
  bx : x.heap[a]? = some (.cells #[ptr S.sid] 23 (0, 0))
  ev : x.heap[a + 1]? = some (.cells (evCells e nv) 36 (0, 0))
section
variable {S : St} {nm : ByteArray} {p : Pk} {a : Nat} {e : Ev} {nv : Value} {x y : World} {q : ByteArray}
abbrev F3 (S : St) (a : Nat) (e : Ev) (x : World) : Prop := x.cell? ⟨a, 0, none⟩ = some (ptr S.sid) ∧ x.cell? ⟨S.sid, 4, none⟩ = some (.map (some S.qid)) ∧ x.cell? ⟨a + 1, 2, none⟩ = some (.string e.nm)
theorem FP.next (hb : Below x.heap.size x y) (h : FP S nm p a e nv x) : FP S nm p a e nv y := ⟨h.st.next hb, (hb.block _ (Array.getElem?_eq_some_iff.1 h.bx).1).trans h.bx, (hb.block _ (Array.getElem?_eq_some_iff.1 h.ev).1).trans h.ev⟩
theorem FP.all (h : FP S nm p a e nv x) : F3 S a e x := by
  obtain ⟨e0, e1, e2, -⟩ := evcells h.ev
  exact ⟨cells_of_block h.bx 0, h.st.cells.2.2.2.2, e2⟩
theorem FQ.all (h : FQ S nm p q a e nv x) : F3 S a e x := by
  obtain ⟨e0, e1, e2, -⟩ := evcells h.ev
  exact ⟨cells_of_block h.bx 0, h.st.cells.2.2.2.2, e2⟩
theorem FP.squash {es : Array MapEntry} {c : Nat} (h : FP S nm p a e nv x) (hm : ∀ w', w'.heap[S.qid]? = some (.map es c) → MapIs w' S.qid (mput q (.string nm) (withPack S nm p).qE)) : FQ S nm p q a e nv (setBlk x S.qid (.map es c)) := by
  obtain ⟨es0, c0, hq, _⟩ := id h.st.sq
  have hq' : x.heap[S.qid]? = some (.map es0 c0) := hq
  refine ⟨StAt.withSquash h.st (Turned.setBlk _) (keepN_map h.st.sq _) (hm _ (setBlk_same hq')), (setBlk_other ?_).trans h.bx, (setBlk_other ?_).trans h.ev⟩
  · intro e; rw [← e, h.bx] at hq'; cases hq'
  · intro e; rw [← e, h.ev] at hq'; cases hq'
end
/-- what the making of a package reads, and where that lies -/
structure C4 (S : St) (a b : Nat) (nm who : ByteArray) (x : World) : Prop where
  ca : x.cell? ⟨a, 0, none⟩ = some (ptr S.sid)
  cs : x.cell? ⟨S.sid, 3, none⟩ = some (.map (some S.kid))
  cn : x.cell? ⟨b, 2, none⟩ = some (.string nm)
  cw : x.cell? ⟨b, 1, none⟩ = some (.string who)
  la : a < x.heap.size
  ls : S.sid < x.heap.size
  lb : b < x.heap.size
section
variable {S : St} {a b : Nat} {nm who : ByteArray} {x : World}
theorem C4.alloc (h : C4 S a b nm who x) (o : Obj) : C4 S a b nm who (x.alloc o) :=
  ⟨(cell_block (hp_old x o a h.la)).trans h.ca, (cell_block (hp_old x o _ h.ls)).trans h.cs, (cell_block (hp_old x o b h.lb)).trans h.cn, (cell_block (hp_old x o b h.lb)).trans h.cw, by have := h.la; simp; omega, by have := h.ls; simp; omega, by have := h.lb; simp; omega⟩
theorem C4.drew (h : C4 S a b nm who x) : C4 S a b nm who x.drew := ⟨h.ca, h.cs, h.cn, h.cw, h.la, h.ls, h.lb⟩
theorem C4.blk (h : C4 S a b nm who x) (i : Nat) (o : Obj) (n1 : a ≠ i) (n2 : S.sid ≠ i) (n3 : b ≠ i) : C4 S a b nm who (setBlk x i o) :=
  ⟨(cell_block (setBlk_other n1)).trans h.ca, (cell_block (setBlk_other n2)).trans h.cs, (cell_block (setBlk_other n3)).trans h.cn, (cell_block (setBlk_other n3)).trans h.cw, by have := h.la; simpa using this, by have := h.ls; simpa using this, by have := h.lb; simpa using this⟩
abbrev C4s (S : St) (a b : Nat) (nm who : ByteArray) (x : World) : Prop := x.cell? ⟨a, 0, none⟩ = some (ptr S.sid) ∧ x.cell? ⟨S.sid, 3, none⟩ = some (.map (some S.kid)) ∧ x.cell? ⟨b, 2, none⟩ = some (.string nm) ∧ x.cell? ⟨b, 1, none⟩ = some (.string who)
theorem C4.all (h : C4 S a b nm who x) : C4s S a b nm who x := ⟨h.ca, h.cs, h.cn, h.cw⟩
end
set_option maxHeartbeats 4000000 in
set_option maxRecDepth 100000 in
theorem publishNew_any (k : Int) (who nm ver hold note : ByteArray) (nd : List (ByteArray × ByteArray)) (sm n sz : Int) (nv : Value) (S : St) (w : World)
    (h : StAt w S) (hn : NeedsAt w nv nd) (hp : aget nm S.packs = none) (hnm : nm.size ≤ 9223372036854775807) :
    Calls Tryz.prog 39 #[ptr S.sid, .agg (evCells ⟨k, who, nm, ver, nd, sm, n, sz, hold, note⟩ nv)] w fun e w' =>
      e = noRet ∧ ∃ nv' p, (p.holders = [who] ∧ p.touched = 0 ∧ p.rels = [] ∧ ∀ i ∈ p.ids, w.heap.size ≤ i) ∧ StAt w' (setRel (addPack S nm p) nm p ver (newRel S ⟨k, who, nm, ver, nd, sm, n, sz, hold, note⟩ nv')) ∧ Turned [S.kid, S.qid] w w' ∧ KeepN w w' := by
  obtain ⟨A, cp, rfl, _⟩ := id hn
  have hb1 : Below w.heap.size w ((w.alloc (.cells #[ptr S.sid] 23)).alloc (.cells (evCells ⟨k, who, nm, ver, nd, sm, n, sz, hold, note⟩ (.slice A nd.length cp)) 36)) := ((Below.refl _ _).alloc (Nat.le_refl _) _).alloc (by simp) _
  have h0 := h.next hb1
  obtain ⟨c0, c1, c2, c3, c4⟩ := h0.cells
  have lK := fun m => lkK (h0.drew m) nm
  rw [hp] at lK
  simp only [Option.map_none] at lK
  have HH := Lib.hid h0; have HN := Lib.hid hn; have HP := Lib.hid hp; have HB1 := Lib.hid hb1
  obtain ⟨qb, hqb⟩ : ∃ q, mk ((squash (bs nm)).getD []) = q := ⟨_, rfl⟩
  have HQB := Lib.hid hqb
  have HSQ : Hid (∀ W, Calls Tryz.prog 58 #[.string nm] W fun e w' => e = .returned (.string qb) ∧ Below W.heap.size W w') := Lib.hid (fun W => by
    have := fsquash_any nm W hnm
    rwa [hqb] at this)
  clear hqb
  have HNK : Hid (∀ y, KeepN w y → Turned [S.kid, S.qid] w y → NeedsAt y (.slice A nd.length cp) nd) := Lib.hid (fun y hk ht => needs_turned HN.out ht (by
    intro i hi o u hc
    simp only [List.mem_cons, List.not_mem_nil, or_false] at hi
    rcases hi with rfl | rfl
    · exact cell_not_map h.pk hc
    · exact cell_not_map h.sq hc))
  have kl := h.pk.lt; have sl := (Array.getElem?_eq_some_iff.1 h.hd).1
  clear hn hp hb1 h0 h
  have hmm := @run_makeMap Tryz.prog
  unfold evCells
  go_enter Tryz.func39, Tryz.ntmps39
  go_wp2
  go_quiet (fail)
  go_wp2_with fail
  have al := alloc2 w (.cells #[ptr S.sid] 23) (.cells (evCells ⟨k, who, nm, ver, nd, sm, n, sz, hold, note⟩ (.slice A nd.length cp)) 36)
  obtain ⟨W1, hW1⟩ : ∃ W1, W1 = ((w.alloc (.cells #[ptr S.sid] 23)).alloc (.cells (evCells ⟨k, who, nm, ver, nd, sm, n, sz, hold, note⟩ (.slice A nd.length cp)) 36)).drewN nq := ⟨_, rfl⟩
  have hsW : W1.heap.size = w.heap.size + 2 := by rw [hW1]; simp
  have hst : StAt W1 S := by rw [hW1]; exact HH.out.drew nq
  have hbx : W1.heap[w.heap.size]? = some (.cells #[ptr S.sid] 23 (0, 0)) := by rw [hW1]; exact al.1
  have hev : W1.heap[w.heap.size + 1]? = some (.cells (evCells ⟨k, who, nm, ver, nd, sm, n, sz, hold, note⟩ (.slice A nd.length cp)) 36 (0, 0)) := by rw [hW1]; exact al.2
  have hbl : Below w.heap.size w W1 := by rw [hW1]; exact bseq HB1.out (below_drewN'' _ nq)
  rw [← hW1]
  clear hW1 al HH HB1 lK c0 c1 c2 c3 c4
  have hst1 : StAt W1.drew S := hst.next ((Below.refl _ _).drew)
  obtain ⟨-, -, -, c3, -⟩ := hst.cells
  have b0 : W1.cell? ⟨w.heap.size, 0, none⟩ = some (ptr S.sid) := cells_of_block hbx 0
  obtain ⟨-, e1, e2, -⟩ := evcells hev
  obtain ⟨es, cl, hput, hm⟩ := hst1.pk.put Tryz.underlying77 Tryz.underlying9 nm (ptr (W1.heap.size + 1 + 1))
  have hkl : S.kid < W1.heap.size := by omega
  have iA := insFirst W1.heap.size who (W1.alloc M0).drew (hp_new W1 _ _ rfl)
  have iB := insFirst W1.heap.size who ((W1.alloc M0).alloc M0).drew ((hp_old (W1.alloc M0) _ _ (by simp)).trans (hp_new W1 _ _ rfl))
  have iC := insFirst (W1.heap.size + 1) who ((W1.alloc M0).alloc M0).drew (hp_new (W1.alloc M0) _ _ (by simp))
  have pA := hput (((setBlk (W1.alloc M0).drew W1.heap.size (M1 who)).alloc M0).alloc (PO W1.heap.size (W1.heap.size + 1))) ((hp_old _ _ _ (by simp; omega)).trans ((hp_old _ _ _ (by simp; omega)).trans ((setBlk_other (by omega)).trans (hp_old W1 _ _ hkl))))
  have pB := hput ((setBlk ((W1.alloc M0).alloc M0).drew W1.heap.size (M1 who)).alloc (PO W1.heap.size (W1.heap.size + 1))) ((hp_old _ _ _ (by simp; omega)).trans ((setBlk_other (by omega)).trans ((hp_old (W1.alloc M0) _ _ (by simp; omega)).trans (hp_old W1 _ _ hkl))))
  have pC := hput ((setBlk ((W1.alloc M0).alloc M0).drew (W1.heap.size + 1) (M1 who)).alloc (PO (W1.heap.size + 1) W1.heap.size)) ((hp_old _ _ _ (by simp; omega)).trans ((setBlk_other (by omega)).trans ((hp_old (W1.alloc M0) _ _ (by simp; omega)).trans (hp_old W1 _ _ hkl))))
  have hss := setBlk_size
  have hap := hst.apart
  have hc : C4 S w.heap.size (w.heap.size + 1) nm who W1 := ⟨b0, c3, e2, e1, by omega, by omega, by omega⟩
  have n1 : w.heap.size ≠ W1.heap.size := by omega
  have n2 : S.sid ≠ W1.heap.size := by omega
  have n3 : w.heap.size + 1 ≠ W1.heap.size := by omega
  have m1 : w.heap.size ≠ W1.heap.size + 1 := by omega
  have m2 : S.sid ≠ W1.heap.size + 1 := by omega
  have m3 : w.heap.size + 1 ≠ W1.heap.size + 1 := by omega
  have k1 : w.heap.size ≠ S.kid := by omega
  have k3 : w.heap.size + 1 ≠ S.kid := by omega
  have v0 := Lib.hid hc.drew.all
  have v1 := Lib.hid (hc.alloc M0).drew.all
  have v2 := Lib.hid ((hc.alloc M0).alloc M0).drew.all
  have cA := (hc.alloc M0).drew.blk W1.heap.size (M1 who) n1 n2 n3
  have cB := ((hc.alloc M0).alloc M0).drew.blk W1.heap.size (M1 who) n1 n2 n3
  have cC := ((hc.alloc M0).alloc M0).drew.blk (W1.heap.size + 1) (M1 who) m1 m2 m3
  have vA := Lib.hid cA.all
  have vA1 := Lib.hid (cA.alloc M0).all
  have vB := Lib.hid cB.all
  have vC := Lib.hid cC.all
  have cA2 := (cA.alloc M0).alloc (PO W1.heap.size (W1.heap.size + 1))
  have cB2 := cB.alloc (PO W1.heap.size (W1.heap.size + 1))
  have cC2 := cC.alloc (PO (W1.heap.size + 1) W1.heap.size)
  have vA2 := Lib.hid cA2.all
  have vB2 := Lib.hid cB2.all
  have vC2 := Lib.hid cC2.all
  have vA3 := Lib.hid (cA2.blk S.kid (.map es cl) k1 hap.2.2.1.symm k3).all
  have vB3 := Lib.hid (cB2.blk S.kid (.map es cl) k1 hap.2.2.1.symm k3).all
  have vC3 := Lib.hid (cC2.blk S.kid (.map es cl) k1 hap.2.2.1.symm k3).all
  have HSW := Lib.hid hsW; have HM := Lib.hid hm; have HST := Lib.hid hst; have HBX := Lib.hid hbx; have HEV := Lib.hid hev; have HBL := Lib.hid hbl; have HKL := Lib.hid hkl
  obtain ⟨es0, cl0, hk0, -⟩ := id hst.pk
  have HK0 := Lib.hid hk0
  clear hput hst1 hsW hm hst hbx hev hbl hk0 hc cA cB cC cA2 cB2 cC2 n1 n2 n3 m1 m2 m3 k1 k3 hap
  go_region_held3 (fun x => x.cell? ⟨w.heap.size, 0, none⟩ = some (ptr S.sid) ∧ x.cell? ⟨S.sid, 3, none⟩ = some (.map (some S.kid)) ∧ x.cell? ⟨w.heap.size + 1, 2, none⟩ = some (.string nm) ∧ x.cell? ⟨w.heap.size + 1, 1, none⟩ = some (.string who))
    ((first | with_reducible exact v0.out | with_reducible exact v1.out | with_reducible exact v2.out | with_reducible exact vA.out | with_reducible exact vA1.out | with_reducible exact vB.out | with_reducible exact vC.out | with_reducible exact vA2.out | with_reducible exact vB2.out | with_reducible exact vC2.out | with_reducible exact vA3.out | with_reducible exact vB3.out | with_reducible exact vC3.out))
    (fail)
  · have hmid := midA (who := who) (es := es) (cl := cl) HK0.out
    have hfresh : ∀ i ∈ Pk.ids (newPk (W1.heap.size + 2) W1.heap.size (W1.heap.size + 1) who), W1.heap.size ≤ i := by
      intro i hi
      simp only [newPk, Pk.ids, List.mem_cons, List.not_mem_nil, or_false] at hi
      omega
    have hnod : (Pk.ids (newPk (W1.heap.size + 2) W1.heap.size (W1.heap.size + 1) who)).Nodup := by simp [newPk, Pk.ids]
    obtain ⟨X, hX⟩ : ∃ X, X = (setBlk (((setBlk (W1.alloc M0).drew W1.heap.size (M1 who)).alloc M0).alloc (PO W1.heap.size (W1.heap.size + 1))) S.kid (.map es cl)) := ⟨_, rfl⟩
    rw [← hX] at hmid ⊢
    obtain ⟨p, hpp⟩ : ∃ p, p = (newPk (W1.heap.size + 2) W1.heap.size (W1.heap.size + 1) who) := ⟨_, rfl⟩
    rw [← hpp] at hmid hfresh hnod
    have hp1 : p.holders = [who] ∧ p.touched = 0 ∧ p.rels = [] ∧ p.pid = W1.heap.size + 1 + 1 := by rw [hpp]; exact ⟨rfl, rfl, rfl, rfl⟩
    clear hX hpp v0 v1 v2 vA vA1 vB vC vA2 vB2 vC2 vA3 vB3 vC3 iA iB iC pA pB pC
    have hsX : StAt X (withPack S nm p) := StAt.withPack HST.out HP.out hnod hfresh hmid.t hmid.k hmid.p (by rw [hp1.2.2.2]; exact HM.out X hmid.m)
    have hkc : ∀ {cs : Array Value} {T : TypeId} {fz : Nat × Nat} {i : Nat}, W1.heap[i]? = some (.cells cs T fz) → X.heap[i]? = some (.cells cs T fz) := fun {cs T fz i} hi => (hmid.t.block i (Array.getElem?_eq_some_iff.1 hi).1 (by
      intro q
      simp only [List.mem_singleton] at q
      rw [q, HK0.out] at hi; cases hi)).trans hi
    have hbX := hkc HBX.out
    have heX := hkc HEV.out
    have hFX : FP S nm p w.heap.size ⟨k, who, nm, ver, nd, sm, n, sz, hold, note⟩ (.slice A nd.length cp) X := ⟨hsX, hbX, heX⟩
    have HFX := Lib.hid hFX; have HFD := Lib.hid (hFX.next (Below.refl X.heap.size X).drew); have HMID := Lib.hid hmid; have HFR := Lib.hid hfresh; have HP1 := Lib.hid hp1
    clear hsX hbX heX hFX hmid hfresh hnod hp1 hkc
    go_wp2
    go_region_held3 (fun x => x.cell? ⟨w.heap.size, 0, none⟩ = some (ptr S.sid) ∧ x.cell? ⟨S.sid, 4, none⟩ = some (.map (some S.qid)) ∧ x.cell? ⟨w.heap.size + 1, 2, none⟩ = some (.string nm))
      ((first | with_reducible exact HFD.out.all | with_reducible exact hm5.all | with_reducible exact hm7.all))
      ((go_at_call 58; refine (HSQ.out _).mono ?_; rintro e w2 ⟨rfl, hb5⟩; have hm5 := FP.next hb5 HFD.out; obtain ⟨es2, cl2, hput2, hm2⟩ := hm5.st.sq.put Tryz.underlying78 Tryz.underlying9 qb (.string nm); have hp2 : (Instr.mapUpdate 78 (.map (some S.qid)) (.string qb) (.string nm)).run Tryz.prog w2 = .ok () (setBlk w2 S.qid (.map es2 cl2)) := hput2 w2 rfl; have hm7 := hm5.squash hm2; have HM2 := Lib.hid hm2; clear hput2 hm2))
    have hB5 : Below X.heap.size X w2 := bseq (Below.refl X.heap.size X).drew hb5
    obtain ⟨g0, g1, g2⟩ := hm7.all
    have c0 := cells_of_block hm7.bx 0
    obtain ⟨e0, e1, e2, e3, e4, e5, e6, e7, e8, e9⟩ := evcells hm7.ev
    have tX : Turned [S.kid, S.qid] w X := (Turned.of_below HBL.out).trans HMID.out.t (fun j hj => .inl (by simp only [List.mem_singleton] at hj; simp [hj]))
    have kX : KeepN w X := (KeepN.below HBL.out).trans HMID.out.k
    have t7 : Turned [S.kid, S.qid] w (setBlk w2 S.qid (.map es2 cl2)) := (tX.more (Turned.of_below hB5)).trans (Turned.setBlk _) (fun j hj => .inl (by simp only [List.mem_singleton] at hj; simp [hj]))
    have k7 : KeepN w (setBlk w2 S.qid (.map es2 cl2)) := (kX.trans (KeepN.below hB5)).trans (keepN_map hm5.st.sq _)
    have HM7 := Lib.hid hm7; have T7 := Lib.hid t7; have K7 := Lib.hid k7
    have hn7 : NeedsAt (setBlk w2 S.qid (.map es2 cl2)) (.slice A nd.length cp) nd := HNK.out _ k7 t7
    have l7 : w.heap.size < (setBlk w2 S.qid (.map es2 cl2)).heap.size := (Array.getElem?_eq_some_iff.1 hm7.bx).1
    clear hm5 hm7 t7 k7 tX kX hB5 hb5
    go_wp2_with (go_at_call 92; refine (releasePub_any k who nm ver hold note nd sm n sz (.slice A nd.length cp) (withSquash (withPack S nm p) qb nm) p (w.heap.size + 1) w.heap.size _ HM7.out.st hn7 (aget_aput nm p S.packs) HM7.out.ev c0 l7).mono ?_)
    first | rintro e w8 rfl nv' hst8 ht8 hk8 | rintro e w8 ⟨rfl, nv', hst8, ht8, hk8⟩
    go_wp2
    go_end0
    refine ⟨rfl, nv', p, ⟨HP1.out.1, HP1.out.2.1, HP1.out.2.2.1, fun i hi => by have := HFR.out i hi; have := HSW.out; omega⟩, ?_, T7.out.trans ht8 (fun j hj => .inr ?_), K7.out.trans hk8⟩
    · unfold addPack; rw [HQB.out]; exact hst8
    · simp only [List.mem_singleton] at hj
      have := HFR.out p.rid (by simp [Pk.ids]); have := HSW.out; omega
  · have hmid := midB (who := who) (es := es) (cl := cl) HK0.out
    have hfresh : ∀ i ∈ Pk.ids (newPk (W1.heap.size + 2) W1.heap.size (W1.heap.size + 1) who), W1.heap.size ≤ i := by
      intro i hi
      simp only [newPk, Pk.ids, List.mem_cons, List.not_mem_nil, or_false] at hi
      omega
    have hnod : (Pk.ids (newPk (W1.heap.size + 2) W1.heap.size (W1.heap.size + 1) who)).Nodup := by simp [newPk, Pk.ids]
    obtain ⟨X, hX⟩ : ∃ X, X = (setBlk ((setBlk ((W1.alloc M0).alloc M0).drew W1.heap.size (M1 who)).alloc (PO W1.heap.size (W1.heap.size + 1))) S.kid (.map es cl)) := ⟨_, rfl⟩
    rw [← hX] at hmid ⊢
    obtain ⟨p, hpp⟩ : ∃ p, p = (newPk (W1.heap.size + 2) W1.heap.size (W1.heap.size + 1) who) := ⟨_, rfl⟩
    rw [← hpp] at hmid hfresh hnod
    have hp1 : p.holders = [who] ∧ p.touched = 0 ∧ p.rels = [] ∧ p.pid = W1.heap.size + 1 + 1 := by rw [hpp]; exact ⟨rfl, rfl, rfl, rfl⟩
    clear hX hpp v0 v1 v2 vA vA1 vB vC vA2 vB2 vC2 vA3 vB3 vC3 iA iB iC pA pB pC
    have hsX : StAt X (withPack S nm p) := StAt.withPack HST.out HP.out hnod hfresh hmid.t hmid.k hmid.p (by rw [hp1.2.2.2]; exact HM.out X hmid.m)
    have hkc : ∀ {cs : Array Value} {T : TypeId} {fz : Nat × Nat} {i : Nat}, W1.heap[i]? = some (.cells cs T fz) → X.heap[i]? = some (.cells cs T fz) := fun {cs T fz i} hi => (hmid.t.block i (Array.getElem?_eq_some_iff.1 hi).1 (by
      intro q
      simp only [List.mem_singleton] at q
      rw [q, HK0.out] at hi; cases hi)).trans hi
    have hbX := hkc HBX.out
    have heX := hkc HEV.out
    have hFX : FP S nm p w.heap.size ⟨k, who, nm, ver, nd, sm, n, sz, hold, note⟩ (.slice A nd.length cp) X := ⟨hsX, hbX, heX⟩
    have HFX := Lib.hid hFX; have HFD := Lib.hid (hFX.next (Below.refl X.heap.size X).drew); have HMID := Lib.hid hmid; have HFR := Lib.hid hfresh; have HP1 := Lib.hid hp1
    clear hsX hbX heX hFX hmid hfresh hnod hp1 hkc
    go_wp2
    go_region_held3 (fun x => x.cell? ⟨w.heap.size, 0, none⟩ = some (ptr S.sid) ∧ x.cell? ⟨S.sid, 4, none⟩ = some (.map (some S.qid)) ∧ x.cell? ⟨w.heap.size + 1, 2, none⟩ = some (.string nm))
      ((first | with_reducible exact HFD.out.all | with_reducible exact hm5.all | with_reducible exact hm7.all))
      ((go_at_call 58; refine (HSQ.out _).mono ?_; rintro e w2 ⟨rfl, hb5⟩; have hm5 := FP.next hb5 HFD.out; obtain ⟨es2, cl2, hput2, hm2⟩ := hm5.st.sq.put Tryz.underlying78 Tryz.underlying9 qb (.string nm); have hp2 : (Instr.mapUpdate 78 (.map (some S.qid)) (.string qb) (.string nm)).run Tryz.prog w2 = .ok () (setBlk w2 S.qid (.map es2 cl2)) := hput2 w2 rfl; have hm7 := hm5.squash hm2; have HM2 := Lib.hid hm2; clear hput2 hm2))
    have hB5 : Below X.heap.size X w2 := bseq (Below.refl X.heap.size X).drew hb5
    obtain ⟨g0, g1, g2⟩ := hm7.all
    have c0 := cells_of_block hm7.bx 0
    obtain ⟨e0, e1, e2, e3, e4, e5, e6, e7, e8, e9⟩ := evcells hm7.ev
    have tX : Turned [S.kid, S.qid] w X := (Turned.of_below HBL.out).trans HMID.out.t (fun j hj => .inl (by simp only [List.mem_singleton] at hj; simp [hj]))
    have kX : KeepN w X := (KeepN.below HBL.out).trans HMID.out.k
    have t7 : Turned [S.kid, S.qid] w (setBlk w2 S.qid (.map es2 cl2)) := (tX.more (Turned.of_below hB5)).trans (Turned.setBlk _) (fun j hj => .inl (by simp only [List.mem_singleton] at hj; simp [hj]))
    have k7 : KeepN w (setBlk w2 S.qid (.map es2 cl2)) := (kX.trans (KeepN.below hB5)).trans (keepN_map hm5.st.sq _)
    have HM7 := Lib.hid hm7; have T7 := Lib.hid t7; have K7 := Lib.hid k7
    have hn7 : NeedsAt (setBlk w2 S.qid (.map es2 cl2)) (.slice A nd.length cp) nd := HNK.out _ k7 t7
    have l7 : w.heap.size < (setBlk w2 S.qid (.map es2 cl2)).heap.size := (Array.getElem?_eq_some_iff.1 hm7.bx).1
    clear hm5 hm7 t7 k7 tX kX hB5 hb5
    go_wp2_with (go_at_call 92; refine (releasePub_any k who nm ver hold note nd sm n sz (.slice A nd.length cp) (withSquash (withPack S nm p) qb nm) p (w.heap.size + 1) w.heap.size _ HM7.out.st hn7 (aget_aput nm p S.packs) HM7.out.ev c0 l7).mono ?_)
    first | rintro e w8 rfl nv' hst8 ht8 hk8 | rintro e w8 ⟨rfl, nv', hst8, ht8, hk8⟩
    go_wp2
    go_end0
    refine ⟨rfl, nv', p, ⟨HP1.out.1, HP1.out.2.1, HP1.out.2.2.1, fun i hi => by have := HFR.out i hi; have := HSW.out; omega⟩, ?_, T7.out.trans ht8 (fun j hj => .inr ?_), K7.out.trans hk8⟩
    · unfold addPack; rw [HQB.out]; exact hst8
    · simp only [List.mem_singleton] at hj
      have := HFR.out p.rid (by simp [Pk.ids]); have := HSW.out; omega
  · have hmid := midC (who := who) (es := es) (cl := cl) HK0.out
    have hfresh : ∀ i ∈ Pk.ids (newPk (W1.heap.size + 2) (W1.heap.size + 1) W1.heap.size who), W1.heap.size ≤ i := by
      intro i hi
      simp only [newPk, Pk.ids, List.mem_cons, List.not_mem_nil, or_false] at hi
      omega
    have hnod : (Pk.ids (newPk (W1.heap.size + 2) (W1.heap.size + 1) W1.heap.size who)).Nodup := by simp [newPk, Pk.ids]
    obtain ⟨X, hX⟩ : ∃ X, X = (setBlk ((setBlk ((W1.alloc M0).alloc M0).drew (W1.heap.size + 1) (M1 who)).alloc (PO (W1.heap.size + 1) W1.heap.size)) S.kid (.map es cl)) := ⟨_, rfl⟩
    rw [← hX] at hmid ⊢
    obtain ⟨p, hpp⟩ : ∃ p, p = (newPk (W1.heap.size + 2) (W1.heap.size + 1) W1.heap.size who) := ⟨_, rfl⟩
    rw [← hpp] at hmid hfresh hnod
    have hp1 : p.holders = [who] ∧ p.touched = 0 ∧ p.rels = [] ∧ p.pid = W1.heap.size + 1 + 1 := by rw [hpp]; exact ⟨rfl, rfl, rfl, rfl⟩
    clear hX hpp v0 v1 v2 vA vA1 vB vC vA2 vB2 vC2 vA3 vB3 vC3 iA iB iC pA pB pC
    have hsX : StAt X (withPack S nm p) := StAt.withPack HST.out HP.out hnod hfresh hmid.t hmid.k hmid.p (by rw [hp1.2.2.2]; exact HM.out X hmid.m)
    have hkc : ∀ {cs : Array Value} {T : TypeId} {fz : Nat × Nat} {i : Nat}, W1.heap[i]? = some (.cells cs T fz) → X.heap[i]? = some (.cells cs T fz) := fun {cs T fz i} hi => (hmid.t.block i (Array.getElem?_eq_some_iff.1 hi).1 (by
      intro q
      simp only [List.mem_singleton] at q
      rw [q, HK0.out] at hi; cases hi)).trans hi
    have hbX := hkc HBX.out
    have heX := hkc HEV.out
    have hFX : FP S nm p w.heap.size ⟨k, who, nm, ver, nd, sm, n, sz, hold, note⟩ (.slice A nd.length cp) X := ⟨hsX, hbX, heX⟩
    have HFX := Lib.hid hFX; have HFD := Lib.hid (hFX.next (Below.refl X.heap.size X).drew); have HMID := Lib.hid hmid; have HFR := Lib.hid hfresh; have HP1 := Lib.hid hp1
    clear hsX hbX heX hFX hmid hfresh hnod hp1 hkc
    go_wp2
    go_region_held3 (fun x => x.cell? ⟨w.heap.size, 0, none⟩ = some (ptr S.sid) ∧ x.cell? ⟨S.sid, 4, none⟩ = some (.map (some S.qid)) ∧ x.cell? ⟨w.heap.size + 1, 2, none⟩ = some (.string nm))
      ((first | with_reducible exact HFD.out.all | with_reducible exact hm5.all | with_reducible exact hm7.all))
      ((go_at_call 58; refine (HSQ.out _).mono ?_; rintro e w2 ⟨rfl, hb5⟩; have hm5 := FP.next hb5 HFD.out; obtain ⟨es2, cl2, hput2, hm2⟩ := hm5.st.sq.put Tryz.underlying78 Tryz.underlying9 qb (.string nm); have hp2 : (Instr.mapUpdate 78 (.map (some S.qid)) (.string qb) (.string nm)).run Tryz.prog w2 = .ok () (setBlk w2 S.qid (.map es2 cl2)) := hput2 w2 rfl; have hm7 := hm5.squash hm2; have HM2 := Lib.hid hm2; clear hput2 hm2))
    have hB5 : Below X.heap.size X w2 := bseq (Below.refl X.heap.size X).drew hb5
    obtain ⟨g0, g1, g2⟩ := hm7.all
    have c0 := cells_of_block hm7.bx 0
    obtain ⟨e0, e1, e2, e3, e4, e5, e6, e7, e8, e9⟩ := evcells hm7.ev
    have tX : Turned [S.kid, S.qid] w X := (Turned.of_below HBL.out).trans HMID.out.t (fun j hj => .inl (by simp only [List.mem_singleton] at hj; simp [hj]))
    have kX : KeepN w X := (KeepN.below HBL.out).trans HMID.out.k
    have t7 : Turned [S.kid, S.qid] w (setBlk w2 S.qid (.map es2 cl2)) := (tX.more (Turned.of_below hB5)).trans (Turned.setBlk _) (fun j hj => .inl (by simp only [List.mem_singleton] at hj; simp [hj]))
    have k7 : KeepN w (setBlk w2 S.qid (.map es2 cl2)) := (kX.trans (KeepN.below hB5)).trans (keepN_map hm5.st.sq _)
    have HM7 := Lib.hid hm7; have T7 := Lib.hid t7; have K7 := Lib.hid k7
    have hn7 : NeedsAt (setBlk w2 S.qid (.map es2 cl2)) (.slice A nd.length cp) nd := HNK.out _ k7 t7
    have l7 : w.heap.size < (setBlk w2 S.qid (.map es2 cl2)).heap.size := (Array.getElem?_eq_some_iff.1 hm7.bx).1
    clear hm5 hm7 t7 k7 tX kX hB5 hb5
    go_wp2_with (go_at_call 92; refine (releasePub_any k who nm ver hold note nd sm n sz (.slice A nd.length cp) (withSquash (withPack S nm p) qb nm) p (w.heap.size + 1) w.heap.size _ HM7.out.st hn7 (aget_aput nm p S.packs) HM7.out.ev c0 l7).mono ?_)
    first | rintro e w8 rfl nv' hst8 ht8 hk8 | rintro e w8 ⟨rfl, nv', hst8, ht8, hk8⟩
    go_wp2
    go_end0
    refine ⟨rfl, nv', p, ⟨HP1.out.1, HP1.out.2.1, HP1.out.2.2.1, fun i hi => by have := HFR.out i hi; have := HSW.out; omega⟩, ?_, T7.out.trans ht8 (fun j hj => .inr ?_), K7.out.trans hk8⟩
    · unfold addPack; rw [HQB.out]; exact hst8
    · simp only [List.mem_singleton] at hj
      have := HFR.out p.rid (by simp [Pk.ids]); have := HSW.out; omega
end Go.Proofs.YtggdgjifhikmiaaGreatDoor
