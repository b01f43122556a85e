/- Contract of fold.Of, over what Apply answers of its events. No condition of its own. -/
import Derived.Test.YtggdgjifhikmiaaGreatDoorConStep
set_option linter.unusedVariables false
namespace Go.Proofs.YtggdgjifhikmiaaGreatDoor
open Go.RowKit Yk
/-- a slice of events, each with the value of its needs -/
def EvsAt (w : World) (v : Value) (es : List (Ev × Value)) : Prop :=
  ∃ A c, v = .slice A es.length c ∧ (es.length ≤ c ∧ es.length ≤ 1099511627776) ∧ (∀ x ∈ es, NeedsAt w x.2 x.1.needs) ∧
    (0 < es.length → ∃ b off, A = some ⟨b, off, none⟩ ∧ b < w.heap.size ∧ ∀ j (h : j < es.length) i, i < 10 → w.cell? ⟨b, off + j * 10 + i, none⟩ = (evCells (es[j]'h).1 (es[j]'h).2)[i]?)
theorem EvsAt.below {w w' : World} {v : Value} {es : List (Ev × Value)} (h : EvsAt w v es) (hb : Below w.heap.size w w') : EvsAt w' v es := by
  obtain ⟨A, c, rfl, hm, hn, ha⟩ := h
  refine ⟨A, c, rfl, hm, fun x hx => (hn x hx).below hb, fun h0 => ?_⟩
  obtain ⟨b, off, hA, hlt, hc⟩ := ha h0
  exact ⟨b, off, hA, Nat.lt_of_lt_of_le hlt hb.size, fun j hj i hi => by rw [cell_block (hb.block _ hlt), hc j hj i hi]⟩
/-- no string lies in a state's blocks -/
theorem StAt.noStr {w : World} {S : St} (h : StAt w S) {i o : Nat} {u : ByteArray} (hi : i ∈ S.ids) (hc : w.cell? ⟨i, o, none⟩ = some (.string u)) : False := by
  unfold St.ids at hi
  simp only [List.mem_append, List.mem_cons, List.not_mem_nil, or_false, List.mem_map, List.mem_flatMap] at hi
  rcases hi with ((rfl | rfl | rfl | rfl | rfl) | ⟨x, hx, rfl⟩) | ⟨x, hx, hi⟩
  · exact stNoStr h.hd hc
  · exact cell_not_map h.ac hc
  · exact cell_not_map h.te hc
  · exact cell_not_map h.pk hc
  · exact cell_not_map h.sq hc
  · exact cell_not_map (h.tms x hx) hc
  · have hp := h.pks x hx
    unfold Pk.ids at hi
    simp only [List.mem_cons, List.not_mem_nil, or_false] at hi
    rcases hi with rfl | rfl | rfl
    · rw [cells_of_block hp.hd o] at hc
      match o, hc with
      | 0, hc => simp at hc
      | 1, hc => simp at hc
      | 2, hc => simp at hc
      | n + 3, hc => simp at hc
    · exact cell_not_map hp.ho hc
    · exact cell_not_map hp.re hc
theorem EvsAt.turned {w w' : World} {v : Value} {es : List (Ev × Value)} {S : St} {I : List Nat} (h : EvsAt w v es) (hS : StAt w S) (ht : Turned I w w') (hI : ∀ i ∈ I, i ∈ S.ids) : EvsAt w' v es := by
  obtain ⟨A, c, rfl, hm, hn, ha⟩ := h
  refine ⟨A, c, rfl, hm, fun x hx => needs_turned (hn x hx) ht (fun i hi {o u} hc => hS.noStr (hI i hi) hc), fun h0 => ?_⟩
  obtain ⟨b, off, hA, hlt, hc⟩ := ha h0
  have hb : b ∉ I := fun q => hS.noStr (hI b q) (o := off + 0 * 10 + 1) (u := (es[0]'h0).1.who) (hc 0 h0 1 (by omega))
  exact ⟨b, off, hA, Nat.lt_of_lt_of_le hlt ht.size, fun j hj i hi => by rw [cell_block (ht.block _ hlt hb), hc j hj i hi]⟩
/-- all events, from a state on: a state, or the first that does not fit -/
def ofP (X : PSt) (k : Nat) : List Ev → PSt ⊕ (Nat × Int × Int)
  | [] => .inl X
  | e :: r => if codeP X e = 0 then ofP (makeP X e) (k + 1) r else .inr (k, codeP X e, e.kind)
theorem ofP_step {X : PSt} {k : Nat} {l : List Ev} {e : Ev} (h : l[k]? = some e) (hc : codeP X e = 0) : ofP X k (l.drop k) = ofP (makeP X e) (k + 1) (l.drop (k + 1)) := by
  have hk := (List.getElem?_eq_some_iff.1 h).1
  have he : l[k]'hk = e := (List.getElem?_eq_some_iff.1 h).2
  rw [List.drop_eq_getElem_cons hk, he, ofP, if_pos hc]
theorem ofP_bad {X : PSt} {k : Nat} {l : List Ev} {e : Ev} (h : l[k]? = some e) (hc : codeP X e ≠ 0) : ofP X k (l.drop k) = .inr (k, codeP X e, e.kind) := by
  have hk := (List.getElem?_eq_some_iff.1 h).1
  have he : l[k]'hk = e := (List.getElem?_eq_some_iff.1 h).2
  rw [List.drop_eq_getElem_cons hk, he, ofP, if_neg hc]
theorem ofP_end {X : PSt} {k : Nat} {l : List Ev} (h : l.length ≤ k) : ofP X k (l.drop k) = .inl X := by rw [List.drop_eq_nil_of_le h]; rfl
theorem makeP_head (X : PSt) (e : Ev) : (makeP X e).head = X.head + 1 := by
  unfold makeP makeH onPack
  repeat' split
  all_goals rfl
/-- what fold.Of answers -/
def OfPost (es : List (Ev × Value)) (w : World) (en : Ending) (w' : World) : Prop :=
  Below w.heap.size w w' ∧ ((∃ S, ofP PSt.zero 0 (es.map (·.1)) = .inl S.data ∧ S.head = (es.length : Int) ∧ en = .returned (.tuple #[ptr S.sid, .int .i64 es.length, .nilIface]) ∧ StAt w' S ∧ ∀ i ∈ S.ids, w.heap.size ≤ i) ∨
    ∃ k c kd v, k < es.length ∧ ofP PSt.zero 0 (es.map (·.1)) = .inr (k, c, kd) ∧ c ≠ 0 ∧ en = .returned (.tuple #[.pointer none, .int .i64 k, v]) ∧ ErrIs w' v c (wordB kd) k)
structure OfRel (es : List (Ev × Value)) (v : Value) (w : World) (sid k : Nat) (S : St) (wr : World) : Prop where
  st : StAt wr S
  id_ : S.sid = sid
  dat : ofP PSt.zero 0 (es.map (·.1)) = ofP S.data k ((es.map (·.1)).drop k)
  hd : S.head = (k : Int)
  fresh : ∀ i ∈ S.ids, w.heap.size ≤ i
  bel : Below w.heap.size w wr
  evs : EvsAt wr v es
  glob : Glob wr
  sz : 14 ≤ w.heap.size
theorem OfRel.next {es : List (Ev × Value)} {v : Value} {w wr w1 w' : World} {sid k : Nat} {S S' : St} {I : List Nat} (h : OfRel es v w sid k S wr) (hb : Below wr.heap.size wr w1) {e : Ev} (he : (es.map (·.1))[k]? = some e) (hc : codeP S.data e = 0)
    (hd : S'.data = makeP S.data e) (hs : S'.sid = S.sid) (hi : ∀ i ∈ S'.ids, i ∈ S.ids ∨ w1.heap.size ≤ i) (hst : StAt w' S') (ht : Turned I w1 w') (hI : ∀ i ∈ I, i ∈ S.ids) : OfRel es v w sid (k + 1) S' w' := by
  have h1 := h.st.next hb
  refine ⟨hst, hs.trans h.id_, by rw [h.dat, ofP_step he hc, hd], ?_, fun i hi' => ?_, ?_, (h.evs.below hb).turned h1 ht hI, ?_, h.sz⟩
  · have : S'.head = S'.data.head := rfl
    rw [this, hd, makeP_head]
    have : S.data.head = S.head := rfl
    rw [this, h.hd]; rfl
  · rcases hi i hi' with q | q
    · exact h.fresh i q
    · exact Nat.le_trans (Nat.le_trans h.bel.size hb.size) q
  · exact h.bel.trans ((hb.mono h.bel.size).trans (ht.below _ (fun i q => h.fresh i (hI i q)) (Nat.le_trans h.bel.size hb.size)))
  · exact (h.glob.next hb).below (ht.below 14 (fun i q => Nat.le_trans h.sz (h.fresh i (hI i q))) (h.glob.next hb).size) (Nat.le_refl _)
def OfHA (es : List (Ev × Value)) : Prop := ∀ j (h : j < es.length) (S : St) (W : World), Glob W → StAt W S → NeedsAt W (es[j]'h).2 (es[j]'h).1.needs → (0 ≤ S.head ∧ S.head ≤ 4611686018427387904) →
  Calls Tryz.prog 10 #[ptr S.sid, .agg (evCells (es[j]'h).1 (es[j]'h).2)] W (ApplyPost S (es[j]'h).1 W)
theorem taFault (g : Nat) (w : World) : (Instr.typeAssert (faultV g) 40 109 false).run Tryz.prog w = .ok (ptr g) w := by kernel_rfl
theorem errs_ne (w : World) (g : Nat) : (binOp .neq 40 (faultV g) .nilIface).run Tryz.prog w = .ok (.bool true) w := by kernel_rfl
theorem nil_ne (w : World) : (binOp .neq 40 .nilIface .nilIface).run Tryz.prog w = .ok (.bool false) w := by kernel_rfl
set_option maxHeartbeats 4000000 in
set_option maxRecDepth 100000 in
theorem of_any (es : List (Ev × Value)) (v : Value) (w : World) (hg : Glob w) (hE : EvsAt w v es) (HA : OfHA es) : Calls Tryz.prog 18 #[v] w (OfPost es w) := by
  obtain ⟨A, cp, rfl, ⟨hlen1, hlen2⟩, _⟩ := id hE
  have HE := Lib.hid hE; have HG := Lib.hid hg; have HH := Lib.hid HA
  have qn := taFault; have q1 := errs_ne; have q2 := nil_ne
  clear hE hg HA
  go_enter Tryz.func18, Tryz.ntmps18
  go_wp2_with (go_at_call 6; refine (new_any _).mono ?_)
  rintro e w0 ⟨rfl, hst, hb⟩
  have HR : Hid (∃ S, OfRel es (.slice A es.length cp) w (newSt w.heap.size).sid 0 S w0) := Lib.hid ⟨newSt w.heap.size, hst, rfl, by simp [newSt, St.data, PSt.zero], rfl, fun i hi => by
    simp only [newSt, St.ids, List.map_nil, List.flatMap_nil, List.append_nil, List.mem_cons, List.not_mem_nil, or_false] at hi
    rcases hi with rfl | rfl | rfl | rfl | rfl <;> omega, hb, HE.out.below hb, HG.out.next hb, HG.out.size⟩
  obtain ⟨sid, hsid⟩ : ∃ sid, sid = (newSt w.heap.size).sid := ⟨_, rfl⟩
  rw [← hsid] at HR ⊢
  clear hst hb hsid
  go_wp2
  go_loopw [2, 12] (fun s i wr => s = ptr sid ∧ ∃ k : Nat, k ≤ es.length ∧ i = .int .i64 k ∧ ∃ S, OfRel es (.slice A es.length cp) w sid k S wr) (fun _ i wr => es.length - (intOf i).toNat)
  case atStart => exact ⟨rfl, 0, Nat.zero_le _, rfl, HR.out⟩
  case round =>
    obtain ⟨rfl, k, hk, rfl, S, hR⟩ := hrel
    have HRR := Lib.hid hR
    clear hR
    by_cases hlt : k < es.length
    · obtain ⟨A', cp', hAe, _, hns, hev⟩ := id HRR.out.evs
      simp only [Value.slice.injEq] at hAe
      obtain ⟨rfl, _, rfl⟩ := hAe
      obtain ⟨b, off, rfl, hblt, hcell⟩ := hev (by omega)
      have hcl := hcell k hlt
      have hnn := hns _ (List.getElem_mem hlt)
      obtain ⟨HAp⟩ : Nonempty (Hid (∀ W, Glob W → StAt W S → NeedsAt W (es[k]'hlt).2 (es[k]'hlt).1.needs → Calls Tryz.prog 10 #[ptr S.sid, .agg (evCells (es[k]'hlt).1 (es[k]'hlt).2)] W (ApplyPost S (es[k]'hlt).1 W))) :=
        ⟨Lib.hid fun W h1 h2 h3 => HH.out k hlt S W h1 h2 h3 ⟨by rw [HRR.out.hd]; omega, by rw [HRR.out.hd]; omega⟩⟩
      have hek : (es.map (·.1))[k]? = some (es[k]'hlt).1 := by simp [hlt]
      obtain ⟨x, hx⟩ : ∃ x, x = es[k]'hlt := ⟨_, rfl⟩
      rw [← hx] at hcl hnn HAp hek
      obtain ⟨⟨kd, who, nm, ver, nd, sm, n, sz, hold, note⟩, nv⟩ := x
      simp only at hcl hnn HAp hek
      obtain ⟨An, cn, rfl, _⟩ := id hnn
      have d0 := hcl 0 (by omega); have d1 := hcl 1 (by omega); have d2 := hcl 2 (by omega); have d3 := hcl 3 (by omega); have d4 := hcl 4 (by omega)
      have d5 := hcl 5 (by omega); have d6 := hcl 6 (by omega); have d7 := hcl 7 (by omega); have d8 := hcl 8 (by omega); have d9 := hcl 9 (by omega)
      simp only [evCells, Nat.add_zero] at d0 d1 d2 d3 d4 d5 d6 d7 d8 d9
      obtain ⟨Y, hY⟩ : ∃ Y, Y = wr.alloc (.cells (evCells ⟨kd, who, nm, ver, nd, sm, n, sz, hold, note⟩ (.slice An nd.length cn)) 36) := ⟨_, rfl⟩
      have bY : Below wr.heap.size wr Y := by rw [hY]; exact (Below.refl _ _).alloc (Nat.le_refl _) _
      have HSI := Lib.hid HRR.out.id_
      have HAC := Lib.hid (HAp.out Y (HRR.out.glob.next bY) (HRR.out.st.next bY) (hnn.below bY))
      rw [HRR.out.id_] at HAC
      have HBY := Lib.hid bY; have HEK := Lib.hid hek; have HYY := Lib.hid hY
      clear hcl hnn HAp hek hx hcell hns hev bY hY hblt
      rw [HYY.out] at HAC
      unfold evCells at HAC
      go_wp2_with (go_at_call 10; (with_reducible refine (HAC.out).mono ?_))
      rintro e w1 ⟨u, rfl, ⟨hc0, her, hb1⟩ | ⟨hc0, rfl, S', I, hd', hs', hi', hst', ht', hI'⟩⟩
      · rcases her with ⟨q, _⟩ | ⟨_, g, rfl, hgg⟩
        · exact absurd q hc0
        have f0 := cells_of_block hgg 0; have f1 := cells_of_block hgg 1; have f2 := cells_of_block hgg 2; have f3 := cells_of_block hgg 3
        simp only [faultCells] at f0 f1 f2 f3
        have HB1 := Lib.hid hb1; have HC0 := Lib.hid hc0
        clear hb1 hc0 hgg d0 d1 d2 d3 d4 d5 d6 d7 d8 d9
        go_wp2
        refine bodyPost_ret (v := .tuple #[.pointer none, .int .i64 k, faultV w1.heap.size]) (by simp [results, Tryz.results18, go_sem]) rfl ?_
        refine ⟨?_, .inr ⟨k, _, kd, _, hlt, ?_, HC0.out, rfl, .inr ⟨HC0.out, _, rfl, heap_alloc_new w1 _⟩⟩⟩
        · have B1 : Below wr.heap.size wr w1 := by rw [HYY.out] at HBY; exact bseq HBY.out HB1.out
          exact HRR.out.bel.trans ((B1.alloc B1.size _).mono HRR.out.bel.size)
        · rw [HRR.out.dat]; exact ofP_bad HEK.out HC0.out
      · have HS := Lib.hid hst'; have HD := Lib.hid hd'; have HI := Lib.hid hi'; have HT := Lib.hid ht'; have HIS := Lib.hid hI'; have HS' := Lib.hid hs'; have HC0 := Lib.hid hc0
        clear hst' hd' hi' ht' hI' hs' hc0 d0 d1 d2 d3 d4 d5 d6 d7 d8 d9
        go_wp2
        go_roundw
        case rel =>
          have hy := HYY.out
          subst hy
          exact ⟨rfl, k + 1, by omega, by go_num, S', HRR.out.next HBY.out HEK.out HC0.out HD.out HS'.out HI.out HS.out HT.out HIS.out⟩
        case measure => simp [intOf]; omega
    · obtain rfl : k = es.length := by omega
      go_wp2
      refine bodyPost_ret (v := .tuple #[ptr sid, .int .i64 es.length, .nilIface]) (by simp [results, Tryz.results18, go_sem]) rfl ⟨HRR.out.bel, .inl ⟨S, ?_, HRR.out.hd, ?_, HRR.out.st, HRR.out.fresh⟩⟩
      · rw [HRR.out.dat]; exact ofP_end (by simp)
      · rw [HRR.out.id_]
end Go.Proofs.YtggdgjifhikmiaaGreatDoor
