/- How arguments are read: an event, its needs, lists of events. No condition of its own. -/
import Derived.Test.YtggdgjifhikmiaaGreatDoorConOf
import Derived.Deep.Slices
import Derived.Deep.Fields
import Derived.ChangeSame
import Derived.Below
import Derived.SizedLaws
import Derived.Carry
set_option linter.unusedVariables false
namespace Go.Proofs.YtggdgjifhikmiaaGreatDoor
open Go.RowKit Go.ChangeShapes Go.WideShapes Go.Deep Yk
section
variable {H : Type} {enc : TypeId × Value → H} {P : Program} {w : World} {base : Nat} {spare : Nat → Bool} {held : Bool}
theorem open_slice_fields {t e : TypeId} {fs : Array Field} {fuel : Nat} {cs : List Value} {x : DataW H × List MemPlace} (ht : P.underlying t = some (.slice e)) (he : P.underlying e = some (.struct fs))
    (hone : oneCellFields P fs = true) (hC : P.cellsOf e = fs.size) (h : DataW.trod enc P w base spare held fuel t cs = some x) :
    (cs = [.slice none 0 0] ∧ x = (.nil, [])) ∨
    ∃ (a : Addr) (len cap m : Nat) (D : Nat → DataW H) (Pl : Nat → List MemPlace), cs = [.slice (some a) len cap] ∧ base ≤ a.block ∧ len ≤ cap ∧ cap ≤ maxLen ∧ m = (if spare a.block then cap else len) ∧
      x = (.slice ((List.range len).map D) ((List.range (m - len)).map fun j => D (len + j)), MemPlace.row a (m * fs.size) ++ (List.range m).flatMap Pl) ∧
      ∀ i, i < m → ∃ (ys : List (DataW H × List MemPlace)) (n : Nat), D i = .agg (ys.map (·.1)) ∧ Pl i = ys.flatMap (·.2) ∧ ys.length = fs.size ∧
        ∀ (j : Nat) (f : Field), fs[j]? = some f → ∃ (v : Value) (y : DataW H × List MemPlace), w.cell? (a.add (i * fs.size + j)) = some v ∧ ys[j]? = some y ∧ DataW.trod enc P w base spare held n f.type [v] = some y := by
  rcases open_slice ht h with h0 | ⟨a, len, cap, m, n, D, Pl, hcs, hb, hl, hm, hmm, hx, hi⟩
  · exact .inl h0
  · refine .inr ⟨a, len, cap, m, D, Pl, hcs, hb, hl, hm, hmm, by rw [hC] at hx; exact hx, fun i him => ?_⟩
    obtain ⟨cs', hc, ht'⟩ := hi i him
    rw [hC] at hc
    obtain ⟨ys, n', hn', hy, hlen, hyl, hf⟩ := DataW.trod_struct he ht'
    obtain ⟨_, hcl, hat⟩ := World.cells?_some hc
    simp only [Prod.mk.injEq] at hy
    refine ⟨ys, n', hy.1, hy.2, hyl, fun j f hj => ?_⟩
    obtain ⟨ho, hk⟩ := hone_of hone j f hj
    have hjl : j < fs.size := (Array.getElem?_eq_some_iff.1 hj).1
    have hcell := hat j hjl
    have hv : cs'[j]? = some (cs'[j]'(by omega)) := List.getElem?_eq_getElem (by omega)
    have h1 := hf j f hj
    rw [ho, hk] at h1
    have hone' : (cs'.drop j).take 1 = [cs'[j]'(by omega)] := by
      rw [List.drop_eq_getElem_cons (by omega)]
      rfl
    rw [hone'] at h1
    have hys : ys[j]? = some (ys[j]'(by omega)) := List.getElem?_eq_getElem (by omega)
    refine ⟨_, _, ?_, hys, h1.trans hys⟩
    rw [← Go.Deep.add_add, hcell, hv]
theorem post_of_below {f : Func} {s : ChangeSpec} {apart fresh handsOn again : Bool} {W W' : World} {args : Array Value} {v : Value} {ds gs : List (DataW H)} {before pa pv : List MemPlace}
    (hW : DataW.Whole enc P f.params.toList s.vars apart W args.toList ds gs before)
    (hres : ∀ (b : Nat) (sp : Nat → Bool) (hd : Bool), DataW.TrodAll enc P W' b sp hd f.resultTypes.toList (v.resultList f.resultTypes.size) (s.fn H (ds ++ gs)).results [])
    (hargs : ∀ sp : Nat → Bool, (∀ p ∈ before, sp p.block = true) → DataW.TrodAll enc P W' 0 sp true f.params.toList args.toList (s.fn H (ds ++ gs)).args pa)
    (hvars : ∀ sp : Nat → Bool, (∀ p ∈ before, sp p.block = true) → DataW.TrodVars enc P W' sp s.vars (s.fn H (ds ++ gs)).vars pv)
    (hps : before = pa ++ pv) (hb : Below W.heap.size W W')
    (hok : ∀ (j : Nat) (t : TypeId) (r : Value), f.resultTypes[j]? = some t → (v.resultList f.resultTypes.size)[j]? = some r → Value.okWide P W' .any 0 t r) :
    s.post enc P f apart fresh handsOn again W args v W' := by
  have hlt : ∀ p ∈ before, p.block < W.heap.size := fun p hp => hW.lt p hp
  have hold : ∀ p ∈ before, (fun b => decide (b < W.heap.size)) p.block = true := fun p hp => by simpa using hlt p hp
  refine ⟨ds, gs, before, [], pa, pv, hW, hres _ _ _, hargs _ hold, hvars _ hold, World.keptBut_mono (fun p hp => ⟨hp, ?_⟩) (hb.frame (· ∈ before)), fun _ => ?_⟩
  · rw [hps, List.mem_append] at hp
    exact Or.inr hp
  · obtain ⟨_, _, _, _, _, hz, hn⟩ := hW
    refine ⟨hok, _, _, ([] ++ pa) ++ pv, ⟨[] ++ pa, pv, trodAll_append (hargs _ (fun _ _ => rfl)) (hres _ _ _), hvars _ (fun _ _ => rfl), rfl, ?_, ?_⟩, ?_⟩
    · intro b off hp
      have hin : MemPlace.cell b off ∈ before := by rw [hps]; simpa using hp
      rw [hb.frozen (hlt _ hin)]
      exact hz b off hin
    · intro ha
      have := hn ha
      rw [hps] at this
      simpa using this
    · intro p hp _
      rw [hps]
      simpa using hp
end
theorem weightsAll_mem {H : Type} {P : Program} {e : TypeId} : ∀ {l : List (DataW H)} {d : DataW H}, d ∈ l → ∀ n ∈ d.weights P e, n ∈ DataW.weightsAll P e l
  | a :: r, d, h, n, hn => by
    unfold DataW.weightsAll
    rcases List.mem_cons.1 h with rfl | h
    · exact List.mem_append_left _ hn
    · exact List.mem_append_right _ (weightsAll_mem h n hn)
theorem agg_weights {H : Type} {P : Program} {t : TypeId} {fs : Array Field} (h : P.underlying t = some (.struct fs)) (ps : List (DataW H)) : (DataW.agg ps).weights P t = DataW.weightsEach P (fs.toList.map (·.type)) ps := by
  rw [DataW.weights, h]
theorem slice_weights {H : Type} {P : Program} {t e : TypeId} (h : P.underlying t = some (.slice e)) (l s : List (DataW H)) : (DataW.slice l s).weights P t = (l.length + s.length) * P.bytesOf e :: (DataW.weightsAll P e l ++ DataW.weightsAll P e s) := by
  rw [DataW.weights, h]
theorem str_weights {H : Type} {P : Program} {t : TypeId} (s : List UInt8) : (DataW.lit (.string s) : DataW H).weights P t = [s.length] := by rw [DataW.weights]
theorem each_cons {H : Type} {P : Program} (t : TypeId) (ts : List TypeId) (d : DataW H) (ds : List (DataW H)) : DataW.weightsEach P (t :: ts) (d :: ds) = d.weights P t ++ DataW.weightsEach P ts ds := by rw [DataW.weightsEach]
theorem add_at (b o k : Nat) : (⟨b, o, none⟩ : Addr).add k = ⟨b, o + k, none⟩ := by
  unfold Addr.add
  split
  · rename_i h; subst h; rfl
  · rfl
theorem bytesNeed : Tryz.prog.bytesOf 47 = 32 := by kernel_rfl
theorem bytesEvent : Tryz.prog.bytesOf 36 = 128 := by kernel_rfl
theorem cellsNeed : Tryz.prog.cellsOf 47 = 2 := by kernel_rfl
theorem cellsEvent : Tryz.prog.cellsOf 36 = 10 := by kernel_rfl
section
variable {H : Type} {enc : TypeId × Value → H} {w : World} {spare : Nat → Bool} {held : Bool}
/-- needs as they are read -/
theorem needs_open {fuel : Nat} {cs : List Value} {x : DataW H × List MemPlace} (h : DataW.trod enc Tryz.prog w 0 spare held fuel 32 cs = some x) (hw : ∀ n ∈ x.1.weights Tryz.prog 32, n ≤ reachBytes) :
    ∃ nv xs, cs = [nv] ∧ NeedsAt w nv xs := by
  rcases open_slice_fields Tryz.underlying32 Tryz.underlying47 (by kernel_rfl) cellsNeed h with ⟨rfl, rfl⟩ | ⟨a, len, cap, m, D, Pl, rfl, hb, hl, hm, hmm, rfl, hi⟩
  · exact ⟨_, [], rfl, NeedsAt.nil w⟩
  · have hlm : len ≤ m := by rw [hmm]; split <;> omega
    have hone : ∀ i, ∃ p : ByteArray × ByteArray, i < len → (w.cell? (a.add (i * 2)) = some (.string p.1) ∧ w.cell? (a.add (i * 2 + 1)) = some (.string p.2) ∧ p.1.size ≤ 140737488355328 ∧ p.2.size ≤ 140737488355328) := by
      intro i
      by_cases hlt : i < len
      · obtain ⟨ys, n, hD, _, hyl, hf⟩ := hi i (by omega)
        obtain ⟨v0, y0, hc0, hy0, ht0⟩ := hf 0 _ rfl
        obtain ⟨v1, y1, hc1, hy1, ht1⟩ := hf 1 _ rfl
        obtain ⟨s0, e0, rfl, _⟩ := DataW.trod_string Tryz.underlying9 ht0
        obtain ⟨s1, e1, rfl, _⟩ := DataW.trod_string Tryz.underlying9 ht1
        simp only [List.cons.injEq, and_true] at e0 e1
        subst e0; subst e1
        have hDm : D i ∈ (List.range len).map D := List.mem_map.2 ⟨i, List.mem_range.2 hlt, rfl⟩
        match ys, hyl, hy0, hy1 with
        | [z0, z1], _, hy0, hy1 =>
          simp only [List.getElem?_cons_zero, Option.some.injEq] at hy0
          simp only [List.getElem?_cons_succ, List.getElem?_cons_zero, Option.some.injEq] at hy1
          subst hy0; subst hy1
          have hW : ∀ n ∈ (D i).weights Tryz.prog 47, n ≤ reachBytes := fun n hn => hw n (by
            rw [slice_weights Tryz.underlying32]
            exact List.mem_cons_of_mem _ (List.mem_append_left _ (weightsAll_mem hDm n hn)))
          rw [hD, agg_weights Tryz.underlying47] at hW
          simp only [List.map_cons, List.map_nil, each_cons, str_weights] at hW
          have w0 := hW s0.data.toList.length (by simp only [List.mem_append, List.mem_singleton, true_or, or_true])
          have w1 := hW s1.data.toList.length (by simp only [List.mem_append, List.mem_singleton, true_or, or_true])
          have l0 : s0.data.toList.length = s0.size := rfl
          have l1 : s1.data.toList.length = s1.size := rfl
          unfold reachBytes at w0 w1
          exact ⟨(s0, s1), fun _ => ⟨hc0, hc1, by simp only; omega, by simp only; omega⟩⟩
      · exact ⟨(ByteArray.empty, ByteArray.empty), fun q => absurd q hlt⟩
    obtain ⟨f, hf⟩ := Classical.axiomOfChoice hone
    have hlen : len * 32 ≤ reachBytes := by
      have := hw ((((List.range len).map D).length + ((List.range (m - len)).map fun j => D (len + j)).length) * Tryz.prog.bytesOf 47) (by
        rw [slice_weights Tryz.underlying32]
        exact .head _)
      rw [bytesNeed] at this
      simp only [List.length_map, List.length_range] at this
      omega
    unfold reachBytes at hlen
    refine ⟨_, (List.range len).map f, rfl, some a, cap, by simp, ⟨by simpa using hl, by simp; omega⟩, fun x hx => ?_, fun h0 => ?_⟩
    · obtain ⟨i, hi, rfl⟩ := List.mem_map.1 hx
      have := hf i (List.mem_range.1 hi)
      exact ⟨this.2.2.1, this.2.2.2⟩
    · simp only [List.length_map, List.length_range] at h0
      obtain ⟨c0, c1, _⟩ := hf 0 h0
      obtain ⟨bk, off, spot⟩ := a
      have hspot : spot = none := by
        have q := World.cell?_spot c0
        unfold Addr.add at q
        by_cases hz : 0 * 2 = 0
        · rw [if_pos hz] at q; exact q
        · exact absurd (Nat.zero_mul 2) hz
      subst hspot
      rw [add_at] at c0 c1
      refine ⟨bk, off, rfl, ?_, fun j hj => ?_⟩
      · unfold World.cell? at c0
        rcases Nat.lt_or_ge bk w.heap.size with q | q
        · exact q
        · rw [Array.getElem?_eq_none q] at c0; simp at c0
      · simp only [List.length_map, List.length_range] at hj
        obtain ⟨g0, g1, _⟩ := hf j hj
        rw [add_at] at g0 g1
        simp only [List.getElem_map, List.getElem_range]
        exact ⟨g0, by rw [show off + j * 2 + 1 = off + (j * 2 + 1) by omega]; exact g1⟩
set_option maxRecDepth 100000 in
set_option maxHeartbeats 1000000 in
/-- an event as it is read -/
theorem ev_open {fuel : Nat} {cs : List Value} {x : DataW H × List MemPlace} (h : DataW.trod enc Tryz.prog w 0 spare held fuel 36 cs = some x) (hw : ∀ n ∈ x.1.weights Tryz.prog 36, n ≤ reachBytes) :
    ∃ e nv, cs = (evCells e nv).toList ∧ NeedsAt w nv e.needs ∧ EvB e := by
  obtain ⟨xs, n, _, rfl, hl, hxl, hg⟩ := DataW.trod_struct Tryz.underlying36 h
  rw [cellsEvent] at hl
  match cs, hl, xs, hxl, hg, hw with
  | [c0, c1, c2, c3, c4, c5, c6, c7, c8, c9], _, [y0, y1, y2, y3, y4, y5, y6, y7, y8, y9], _, hg, hw =>
    have t0 : DataW.trod enc Tryz.prog w 0 spare held n 31 [c0] = some y0 := by
      have q := hg 0 _ rfl
      simpa [show Tryz.prog.cellsOf 31 = 1 from by kernel_rfl] using q
    have t1 : DataW.trod enc Tryz.prog w 0 spare held n 9 [c1] = some y1 := by
      have q := hg 1 _ rfl
      simpa [show Tryz.prog.cellsOf 9 = 1 from by kernel_rfl] using q
    have t2 : DataW.trod enc Tryz.prog w 0 spare held n 9 [c2] = some y2 := by
      have q := hg 2 _ rfl
      simpa [show Tryz.prog.cellsOf 9 = 1 from by kernel_rfl] using q
    have t3 : DataW.trod enc Tryz.prog w 0 spare held n 9 [c3] = some y3 := by
      have q := hg 3 _ rfl
      simpa [show Tryz.prog.cellsOf 9 = 1 from by kernel_rfl] using q
    have t4 : DataW.trod enc Tryz.prog w 0 spare held n 32 [c4] = some y4 := by
      have q := hg 4 _ rfl
      simpa [show Tryz.prog.cellsOf 32 = 1 from by kernel_rfl] using q
    have t5 : DataW.trod enc Tryz.prog w 0 spare held n 33 [c5] = some y5 := by
      have q := hg 5 _ rfl
      simpa [show Tryz.prog.cellsOf 33 = 1 from by kernel_rfl] using q
    have t6 : DataW.trod enc Tryz.prog w 0 spare held n 34 [c6] = some y6 := by
      have q := hg 6 _ rfl
      simpa [show Tryz.prog.cellsOf 34 = 1 from by kernel_rfl] using q
    have t7 : DataW.trod enc Tryz.prog w 0 spare held n 34 [c7] = some y7 := by
      have q := hg 7 _ rfl
      simpa [show Tryz.prog.cellsOf 34 = 1 from by kernel_rfl] using q
    have t8 : DataW.trod enc Tryz.prog w 0 spare held n 9 [c8] = some y8 := by
      have q := hg 8 _ rfl
      simpa [show Tryz.prog.cellsOf 9 = 1 from by kernel_rfl] using q
    have t9 : DataW.trod enc Tryz.prog w 0 spare held n 9 [c9] = some y9 := by
      have q := hg 9 _ rfl
      simpa [show Tryz.prog.cellsOf 9 = 1 from by kernel_rfl] using q
    simp only [List.map_cons, List.map_nil] at hw
    rw [agg_weights Tryz.underlying36] at hw
    simp only [List.map_cons, List.map_nil, each_cons] at hw
    obtain ⟨s1, e1, rfl, _⟩ := DataW.trod_string Tryz.underlying9 t1
    obtain ⟨s2, e2, rfl, _⟩ := DataW.trod_string Tryz.underlying9 t2
    obtain ⟨s3, e3, rfl, _⟩ := DataW.trod_string Tryz.underlying9 t3
    obtain ⟨s8, e8, rfl, _⟩ := DataW.trod_string Tryz.underlying9 t8
    obtain ⟨s9, e9, rfl, _⟩ := DataW.trod_string Tryz.underlying9 t9
    obtain ⟨i0, e0, rfl, k0⟩ := DataW.trod_int Tryz.underlying31 t0
    obtain ⟨i5, e5, rfl, k5⟩ := DataW.trod_int Tryz.underlying33 t5
    obtain ⟨i6, e6, rfl, k6⟩ := DataW.trod_int Tryz.underlying34 t6
    obtain ⟨i7, e7, rfl, k7⟩ := DataW.trod_int Tryz.underlying34 t7
    simp only [List.cons.injEq, and_true] at e0 e1 e2 e3 e5 e6 e7 e8 e9
    simp only [str_weights] at hw
    obtain ⟨nv, nd, e4, hn⟩ := needs_open t4 (fun m hm => hw m (by simp only [List.mem_append]; simp [hm]))
    simp only [List.cons.injEq, and_true] at e4
    subst e0; subst e1; subst e2; subst e3; subst e4; subst e5; subst e6; subst e7; subst e8; subst e9
    have w1 : s1.size ≤ 140737488355328 := by have q := hw s1.data.toList.length (by simp only [List.mem_append, List.mem_singleton, true_or, or_true]); have l : s1.data.toList.length = s1.size := rfl; unfold reachBytes at q; omega
    have w2 : s2.size ≤ 140737488355328 := by have q := hw s2.data.toList.length (by simp only [List.mem_append, List.mem_singleton, true_or, or_true]); have l : s2.data.toList.length = s2.size := rfl; unfold reachBytes at q; omega
    have w3 : s3.size ≤ 140737488355328 := by have q := hw s3.data.toList.length (by simp only [List.mem_append, List.mem_singleton, true_or, or_true]); have l : s3.data.toList.length = s3.size := rfl; unfold reachBytes at q; omega
    have w8 : s8.size ≤ 140737488355328 := by have q := hw s8.data.toList.length (by simp only [List.mem_append, List.mem_singleton, true_or, or_true]); have l : s8.data.toList.length = s8.size := rfl; unfold reachBytes at q; omega
    have w9 : s9.size ≤ 140737488355328 := by have q := hw s9.data.toList.length (by simp only [List.mem_append, List.mem_singleton, true_or, or_true]); have l : s9.data.toList.length = s9.size := rfl; unfold reachBytes at q; omega
    simp [Lit.wf, IntKind.min, IntKind.max, IntKind.signed, IntKind.bits] at k0 k6 k7
    exact ⟨⟨i0, s1, s2, s3, nd, i5, i6, i7, s8, s9⟩, _, rfl, hn, ⟨k0.1, k0.2, w1, w2, w3, w8, w9, k6.1, k6.2, k7.1, k7.2⟩⟩
end
end Go.Proofs.YtggdgjifhikmiaaGreatDoor
