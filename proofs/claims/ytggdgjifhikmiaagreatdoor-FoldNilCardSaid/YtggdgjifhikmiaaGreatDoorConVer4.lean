/- Contracts of strings.Cut at a dash, strings.Split at a dot, version.Read, version.Is. Conditions: the package variables; a string's own bound. -/
import Derived.Test.YtggdgjifhikmiaaGreatDoorConVer3
import Derived.Test.YtggdgjifhikmiaaGreatDoorSpecSplit
set_option linter.unusedVariables false
namespace Go.Proofs.YtggdgjifhikmiaaGreatDoor
open Go.RowKit Yk
abbrev mk (l : Bs) : ByteArray := ⟨l.toArray⟩
theorem bs_mk (l : Bs) : bs (mk l) = l := by simp [bs]
theorem size_mk (l : Bs) : (mk l).size = l.length := by simp [ByteArray.size]
abbrev dashS : ByteArray := { data := #[45] }
abbrev dotS : ByteArray := { data := #[46] }
theorem cut_dash (s : ByteArray) (w : World) (hg : Glob w) (hs : s.size < 4294967281) :
    Calls Tryz.prog 150 #[.string s, .string dashS] w fun e w' => e = .returned (.tuple #[.string (mk (headOf (bs s))), .string (mk (tailOf (bs s))), .bool (dashed (bs s))]) ∧ Below w.heap.size w w' := by
  obtain ⟨m, hm⟩ := hg.max
  refine (Tryz.strings_Cut s dashS m w hs hm).mono ?_
  rintro e w' ⟨rfl, n, rfl⟩
  refine ⟨?_, below_drewN'' _ _⟩
  rw [show dashS.data.toList = [45] from rfl, cut_one]
  unfold headOf tailOf dashed
  cases h : cut1 45 (bs s) with
  | none => simp
  | some p => simp
theorem split_dot (s : ByteArray) (w : World) (hg : Glob w) (hs : s.size < 4294967281) :
    Calls Tryz.prog 151 #[.string s, .string dotS] w fun e w' => ∃ xs : List ByteArray, xs.map bs = splitAt1 46 (bs s) ∧ e = .returned (.slice (some ⟨w.heap.size, 0, none⟩) xs.length xs.length) ∧ StrsAt w' (.slice (some ⟨w.heap.size, 0, none⟩) xs.length xs.length) xs ∧ Below w.heap.size w w' ∧ w'.heap.size = w.heap.size + 1 := by
  obtain ⟨m, hm⟩ := hg.max
  refine (Tryz.strings_Split s dotS m w hs hm (by decide)).mono ?_
  rintro e w' ⟨rfl, rfl⟩
  have hl := split_length 46 s
  have hb := split_bytes 46 s
  obtain ⟨xs, hxs⟩ : ∃ xs, Lib.splitB dotS 0 (Lib.countB s dotS) s = xs := ⟨_, rfl⟩
  rw [show (⟨#[46]⟩ : ByteArray) = dotS from rfl, hxs] at hl hb
  rw [hxs, ← hl]
  have hsz : ∀ x ∈ xs, x.size ≤ s.size := fun x hx => by
    have : bs x ∈ splitAt1 46 (bs s) := by rw [← hb]; exact List.mem_map.2 ⟨x, hx, rfl⟩
    have := piece_le this
    rwa [bs_length, bs_length] at this
  have hn : xs.length ≤ s.size + 1 := by
    have := splitAt1_length_le 46 (bs s)
    rw [← hb, List.length_map, bs_length] at this
    exact this
  refine ⟨xs, hb, rfl, ⟨_, _, rfl, ⟨Nat.le_refl _, by omega⟩, fun x hx => by have := hsz x hx; omega, fun h0 => ⟨_, _, rfl, by simp, fun j hj => ?_⟩⟩, (Below.refl _ _).alloc (Nat.le_refl _) _, by simp⟩
  unfold World.cell?
  rw [heap_alloc_new]
  simp [hj]
def verZero : Value := .agg #[.int .u32 0, .int .u32 0, .int .u32 0, .slice none 0 0]
def ReadOk (s : ByteArray) (e : Ending) (w' : World) (v : Ver) : Prop :=
  verRead (bs s) = some v ∧ 0 ≤ v.maj ∧ 0 ≤ v.min ∧ 0 ≤ v.pat ∧ ∃ pv xs, e = .returned (.tuple #[.agg #[.int .u32 v.maj, .int .u32 v.min, .int .u32 v.pat, pv], .int .i64 0]) ∧ StrsAt w' pv xs ∧ xs.map bs = v.pre
def ReadPost (s : ByteArray) (e : Ending) (w' : World) : Prop :=
  (verRead (bs s) = none ∧ e = .returned (.tuple #[verZero, .int .i64 70])) ∨ ∃ v, ReadOk s e w' v
theorem headOf_le (l : Bs) : (headOf l).length ≤ l.length := by
  unfold headOf
  cases h : cut1 45 l with
  | none => simp
  | some p => obtain ⟨a, b⟩ := p; have := (cut1_some h).1; rw [this]; simp
theorem tailOf_le (l : Bs) : (tailOf l).length ≤ l.length := by
  unfold tailOf
  cases h : cut1 45 l with
  | none => simp
  | some p => obtain ⟨a, b⟩ := p; have := (cut1_some h).1; rw [this]; simp; omega
theorem preOf_dash {l : Bs} (h : dashed l = true) : preOf l = splitAt1 46 (tailOf l) := by
  unfold preOf tailOf
  cases hc : cut1 45 l with
  | none => unfold dashed at h; rw [hc] at h; cases h
  | some p => rfl
theorem preOf_no {l : Bs} (h : dashed l = false) : preOf l = [] := by
  unfold preOf
  cases hc : cut1 45 l with
  | none => rfl
  | some p => unfold dashed at h; rw [hc] at h; cases h
theorem verRead_three {s : ByteArray} (h1 : s.size ≤ 128) {l : List Bs} (hl : l = splitAt1 46 (headOf (bs s))) (h : verThree l = none) : verRead (bs s) = none := by
  unfold verRead; rw [if_neg (by rw [bs_length]; omega), ← hl, h]
theorem verRead_may {s : ByteArray} (h1 : s.size ≤ 128) {l : List Bs} (hl : l = splitAt1 46 (headOf (bs s))) {x y z : Int} (h : verThree l = some (x, y, z)) {pre : List Bs} (hp : preOf (bs s) = pre) {b : Bool} (hb : verMay ⟨x, y, z, pre⟩ = b) : verRead (bs s) = if b then some ⟨x, y, z, pre⟩ else none := by
  unfold verRead; rw [if_neg (by rw [bs_length]; omega), ← hl, h]
  subst hb; subst hp; rfl
theorem verThree_bad {a b c : Bs} (h : (numOut a).2 = false ∨ (numOut b).2 = false ∨ (numOut c).2 = false) : verThree [a, b, c] = none := by
  simp only [verThree, number?_eq]
  rcases h with h | h | h
  · rw [h]; simp
  · rw [h]; cases (numOut a).2 <;> simp
  · rw [h]; cases (numOut a).2 <;> cases (numOut b).2 <;> simp
theorem verThree_ok {a b c : Bs} (h1 : (numOut a).2 = true) (h2 : (numOut b).2 = true) (h3 : (numOut c).2 = true) : verThree [a, b, c] = some ((numOut a).1, (numOut b).1, (numOut c).1) := by
  simp only [verThree, number?_eq, h1, h2, h3]; simp
theorem verThree_len {l : List Bs} (h : l.length ≠ 3) : verThree l = none := by
  match l, h with
  | [], _ => rfl
  | [_], _ => rfl
  | [_, _], _ => rfl
  | [_, _, _], h => exact absurd rfl h
  | _ :: _ :: _ :: _ :: _, _ => rfl
theorem numOut_ge (l : Bs) : 0 ≤ (numOut l).1 := by unfold numOut; split <;> simp; omega
theorem vcells {w : World} {b : Nat} {v0 v1 v2 v3 : Value} {T : TypeId} (h : w.heap[b]? = some (.cells #[v0, v1, v2, v3] T (0, 0))) :
    (w.cell? ⟨b, 0, none⟩ = some v0 ∧ w.cell? ⟨b, 1, none⟩ = some v1 ∧ w.cell? ⟨b, 2, none⟩ = some v2 ∧ w.cell? ⟨b, 3, none⟩ = some v3) ∧
    (w.frozen? ⟨b, 0, none⟩ = false ∧ w.frozen? ⟨b, 1, none⟩ = false ∧ w.frozen? ⟨b, 2, none⟩ = false ∧ w.frozen? ⟨b, 3, none⟩ = false) := by
  refine ⟨⟨?_, ?_, ?_, ?_⟩, Lib.frozen_of_heap h 0, Lib.frozen_of_heap h 1, Lib.frozen_of_heap h 2, Lib.frozen_of_heap h 3⟩ <;> (rw [Lib.cell_of_heap h]; rfl)
theorem heap_setCell_same {w : World} {b o : Nat} {cs : Array Value} {T : TypeId} {fz : Nat × Nat} (h : w.heap[b]? = some (.cells cs T fz)) (v : Value) : (w.setCell ⟨b, o, none⟩ v).heap[b]? = some (.cells (cs.setIfInBounds o v) T fz) := by
  simp only [World.setCell]
  rw [Array.getElem?_modify]
  simp [h]
theorem heap_setCell_other {w : World} {b b' o : Nat} (v : Value) (h : b ≠ b') : (w.setCell ⟨b, o, none⟩ v).heap[b']? = w.heap[b']? := by
  simp only [World.setCell]
  rw [Array.getElem?_modify]
  simp [h]
theorem below_next {B : Nat} {w w1 w2 : World} (h : Below B w w1) (k : Below w1.heap.size w1 w2) (hB : B ≤ w1.heap.size) : Below B w w2 :=
  ⟨k.os.trans h.os, k.tape.trans h.tape, k.output.trans h.output, Nat.le_trans h.size k.size, fun i hi => (k.block i (Nat.lt_of_lt_of_le hi hB)).trans (h.block i hi)⟩
def nAt (k j : Nat) (n : Int) : Int := if j < k then n else 0
def rdRel (x0 x1 x2 : ByteArray) (V : Nat) (w2 : World) (i : Value) (wr : World) : Prop :=
  ∃ k : Nat, k ≤ 3 ∧ i = .int .i64 k ∧ (0 < k → (numOut (bs x0)).2 = true) ∧ (1 < k → (numOut (bs x1)).2 = true) ∧ (2 < k → (numOut (bs x2)).2 = true) ∧
    wr.heap[V]? = some (.cells #[.int .u32 (nAt k 0 (numOut (bs x0)).1), .int .u32 (nAt k 1 (numOut (bs x1)).1), .int .u32 (nAt k 2 (numOut (bs x2)).1), .slice none 0 0] 162 (0, 0)) ∧ Below w2.heap.size w2 wr
set_option maxHeartbeats 4000000 in
set_option maxRecDepth 100000 in
theorem verRead_any (s : ByteArray) (w : World) (hg : Glob w) (hs : s.size ≤ 140737488355328) :
    Calls Tryz.prog 114 #[.string s] w fun e w' => ReadPost s e w' ∧ Below w.heap.size w w' := by
  by_cases h1 : 128 < s.size
  · have hn : verRead (bs s) = none := by unfold verRead; rw [if_pos (by rw [bs_length]; exact h1)]
    have HN := Lib.hid hn; clear hn
    go_enter Tryz.func114, Tryz.ntmps114
    go_wp2
    exact bodyPost_ret (v := .tuple #[verZero, .int .i64 70]) (by simp [results, Tryz.results114, go_sem, verZero]) rfl ⟨.inl ⟨HN.out, rfl⟩, ((Below.refl _ _).alloc (Nat.le_refl _) _)⟩
  · have hR0 : (w.alloc (.cells #[.int .u32 0, .int .u32 0, .int .u32 0, .slice none 0 0] 162)).heap[w.heap.size]? = some (.cells #[.int .u32 0, .int .u32 0, .int .u32 0, .slice none 0 0] 162 (0, 0)) := heap_alloc_new _ _
    have hb0 : Below w.heap.size w (w.alloc (.cells #[.int .u32 0, .int .u32 0, .int .u32 0, .slice none 0 0] 162)) := (Below.refl _ _).alloc (Nat.le_refl _) _
    have hg0 := hg.next hb0
    go_enter Tryz.func114, Tryz.ntmps114
    go_wp2_with (go_at_call 150; refine (cut_dash _ _ hg0 (by omega)).mono ?_)
    rintro e w1 ⟨rfl, hb1⟩
    have hg1 := hg0.next hb1
    have hR1 := (hb1.block w.heap.size (by simp)).trans hR0
    have hB1 : Below w.heap.size w w1 := bseq hb0 hb1
    clear hb1 hb0 hg0 hR0
    obtain ⟨hd, hhd⟩ : ∃ hd, headOf (bs s) = hd := ⟨_, rfl⟩
    obtain ⟨tl, htl⟩ : ∃ tl, tailOf (bs s) = tl := ⟨_, rfl⟩
    obtain ⟨da, hda⟩ : ∃ da, dashed (bs s) = da := ⟨_, rfl⟩
    have hhs : (mk hd).size < 4294967281 := by rw [size_mk, ← hhd]; have := headOf_le (bs s); rw [bs_length] at this; omega
    have hts : (mk tl).size < 4294967281 := by rw [size_mk, ← htl]; have := tailOf_le (bs s); rw [bs_length] at this; omega
    rw [hhd, htl, hda]
    have HHD := Lib.hid hhd; have HTL := Lib.hid htl; have HDA := Lib.hid hda
    clear hhd htl hda
    go_wp2_with (go_at_call 151; refine (split_dot _ _ hg1 hhs).mono ?_)
    rintro e w2 ⟨xs, hxs, rfl, hst, hb2, hsz2⟩
    have hlt1 : w.heap.size < w1.heap.size := (Array.getElem?_eq_some_iff.1 hR1).1
    have hR2 := (hb2.block w.heap.size hlt1).trans hR1
    have hB2 := bseq hB1 hb2
    have hg2 := hg1.next hb2
    have HXS := Lib.hid (show xs.map bs = splitAt1 46 (headOf (bs s)) by rw [hxs, bs_mk, HHD.out])
    have hs128 : s.size ≤ 128 := by omega
    clear hxs hb2 hR1 hB1 hg1 h1
    by_cases hl3 : xs.length = 3
    · obtain ⟨x0, x1, x2, rfl⟩ : ∃ x0 x1 x2, xs = [x0, x1, x2] := by
        match xs, hl3 with
        | [a, b, c], _ => exact ⟨a, b, c, rfl⟩
      clear hl3
      obtain ⟨A', c', hA', hm', hxsz, hcells⟩ := hst
      obtain ⟨b', off', hA2, _, hcell⟩ := hcells (by simp)
      simp only [Value.slice.injEq, List.length_cons, List.length_nil] at hA'
      obtain ⟨hA3, -, -⟩ := hA'
      rw [← hA3] at hA2
      simp only [Option.some.injEq, Addr.mk.injEq] at hA2
      obtain ⟨rfl, rfl, -⟩ := hA2
      clear hA3 hm' hcells
      have c0 : w2.cell? ⟨w1.heap.size, 0, none⟩ = some (.string x0) := by have := hcell 0 (by simp); simpa using this
      have c1 : w2.cell? ⟨w1.heap.size, 1, none⟩ = some (.string x1) := by have := hcell 1 (by simp); simpa using this
      have c2 : w2.cell? ⟨w1.heap.size, 2, none⟩ = some (.string x2) := by have := hcell 2 (by simp); simpa using this
      have z0 : x0.size ≤ 140737488355328 := hxsz _ (by simp)
      have z1 : x1.size ≤ 140737488355328 := hxsz _ (by simp)
      have z2 : x2.size ≤ 140737488355328 := hxsz _ (by simp)
      clear hcell hxsz
      go_wp2
      have i0 : ∀ W, (Instr.index 220 (.agg #[.pointer (some ⟨w1.heap.size + 1, 0, none⟩), .pointer (some ⟨w1.heap.size + 1, 1, none⟩), .pointer (some ⟨w1.heap.size + 1, 2, none⟩)]) (.int .i64 0)).run Tryz.prog W = .ok (.pointer (some ⟨w1.heap.size + 1, 0, none⟩)) W := fun _ => by kernel_rfl
      have i1 : ∀ W, (Instr.index 220 (.agg #[.pointer (some ⟨w1.heap.size + 1, 0, none⟩), .pointer (some ⟨w1.heap.size + 1, 1, none⟩), .pointer (some ⟨w1.heap.size + 1, 2, none⟩)]) (.int .i64 1)).run Tryz.prog W = .ok (.pointer (some ⟨w1.heap.size + 1, 1, none⟩)) W := fun _ => by kernel_rfl
      have i2 : ∀ W, (Instr.index 220 (.agg #[.pointer (some ⟨w1.heap.size + 1, 0, none⟩), .pointer (some ⟨w1.heap.size + 1, 1, none⟩), .pointer (some ⟨w1.heap.size + 1, 2, none⟩)]) (.int .i64 2)).run Tryz.prog W = .ok (.pointer (some ⟨w1.heap.size + 1, 2, none⟩)) W := fun _ => by kernel_rfl
      go_loopw [33] (fun i wr => rdRel x0 x1 x2 (w1.heap.size + 1) w2 i wr) (fun i _ => 3 - (intOf i).toNat)
      case atStart => exact ⟨0, by omega, rfl, by simp, by simp, by simp, by rw [← hsz2]; exact heap_alloc_new _ _, (Below.refl _ _).alloc (Nat.le_refl _) _⟩
      case round =>
        obtain ⟨k, hk, rfl, p0, p1, p2, hV, hbr⟩ := hrel
        have hVlt : w1.heap.size + 1 < wr.heap.size := (Array.getElem?_eq_some_iff.1 hV).1
        have hRr := (hbr.block w.heap.size (by omega)).trans hR2
        have hBr : Below w.heap.size w wr := bseq hB2 hbr
        have hgr := hg2.next hbr
        have d0 : wr.cell? ⟨w1.heap.size, 0, none⟩ = some (.string x0) := by rw [cell_block (hbr.block _ (by omega)), c0]
        have d1 : wr.cell? ⟨w1.heap.size, 1, none⟩ = some (.string x1) := by rw [cell_block (hbr.block _ (by omega)), c1]
        have d2 : wr.cell? ⟨w1.heap.size, 2, none⟩ = some (.string x2) := by rw [cell_block (hbr.block _ (by omega)), c2]
        rcases k with _ | _ | _ | _ | k
        · skip
          obtain ⟨ok, hok⟩ : ∃ ok, (numOut (bs x0)).2 = ok := ⟨_, rfl⟩
          have HOK := Lib.hid hok
          have P0 := Lib.hid p0; have P1 := Lib.hid p1; have P2 := Lib.hid p2
          clear p0 p1 p2
          cases ok
          · have HF := Lib.hid (verRead_three hs128 HXS.out (verThree_bad (.inl hok)))
            clear hok
            go_wp2_with (go_at_call 152; refine (number_any _ _ (by omega)).mono ?_)
            rintro e w3 ⟨rfl, hb3⟩
            unfold numRet
            rw [HOK.out]
            have hR3 := (hb3.block w.heap.size (by omega)).trans hRr
            obtain ⟨⟨r0, r1, r2, r3⟩, ⟨f0, f1, f2, f3⟩⟩ := vcells hR3
            have RR := Lib.hid hR3; clear hR3 hRr hV hR2
            go_wp2
            exact bodyPost_ret (v := .tuple #[verZero, .int .i64 70]) (by simp [results, Tryz.results114, go_sem, verZero, r0, r1, r2, r3]) rfl ⟨.inl ⟨HF.out, rfl⟩, ((((bseq hBr hb3).setCell (p := ⟨w.heap.size, 0, none⟩) (Nat.le_refl _) _).setCell (p := ⟨w.heap.size, 1, none⟩) (Nat.le_refl _) _).setCell (p := ⟨w.heap.size, 2, none⟩) (Nat.le_refl _) _).setCell (p := ⟨w.heap.size, 3, none⟩) (Nat.le_refl _) _⟩
          · clear hok
            go_wp2_with (go_at_call 152; refine (number_any _ _ (by omega)).mono ?_)
            rintro e w3 ⟨rfl, hb3⟩
            unfold numRet
            rw [HOK.out]
            have hV3 := (hb3.block (w1.heap.size + 1) hVlt).trans hV
            obtain ⟨⟨r0, r1, r2, r3⟩, ⟨f0, f1, f2, f3⟩⟩ := vcells hV3
            have RV := Lib.hid hV3; clear hV3 hRr hV hR2
            go_wp2
            go_roundw
            case rel =>
              refine ⟨0 + 1, by omega, by go_num, ?_, ?_, ?_, ?_, ?_⟩
              · first | exact fun _ => HOK.out | exact fun _ => P0.out (by omega)
              · first | exact fun _ => HOK.out | exact fun _ => P1.out (by omega) | exact fun h => absurd h (by omega)
              · first | exact fun _ => HOK.out | exact fun _ => P2.out (by omega) | exact fun h => absurd h (by omega)
              · rw [heap_setCell_same RV.out]; simp [nAt]
              · exact (below_next hbr hb3 (by omega)).setCell (by show _ ≤ w1.heap.size + 1; omega) _
            case measure => simp [intOf]
        · skip
          obtain ⟨ok, hok⟩ : ∃ ok, (numOut (bs x1)).2 = ok := ⟨_, rfl⟩
          have HOK := Lib.hid hok
          have P0 := Lib.hid p0; have P1 := Lib.hid p1; have P2 := Lib.hid p2
          clear p0 p1 p2
          cases ok
          · have HF := Lib.hid (verRead_three hs128 HXS.out (verThree_bad (.inr <| .inl hok)))
            clear hok
            go_wp2_with (go_at_call 152; refine (number_any _ _ (by omega)).mono ?_)
            rintro e w3 ⟨rfl, hb3⟩
            unfold numRet
            rw [HOK.out]
            have hR3 := (hb3.block w.heap.size (by omega)).trans hRr
            obtain ⟨⟨r0, r1, r2, r3⟩, ⟨f0, f1, f2, f3⟩⟩ := vcells hR3
            have RR := Lib.hid hR3; clear hR3 hRr hV hR2
            go_wp2
            exact bodyPost_ret (v := .tuple #[verZero, .int .i64 70]) (by simp [results, Tryz.results114, go_sem, verZero, r0, r1, r2, r3]) rfl ⟨.inl ⟨HF.out, rfl⟩, ((((bseq hBr hb3).setCell (p := ⟨w.heap.size, 0, none⟩) (Nat.le_refl _) _).setCell (p := ⟨w.heap.size, 1, none⟩) (Nat.le_refl _) _).setCell (p := ⟨w.heap.size, 2, none⟩) (Nat.le_refl _) _).setCell (p := ⟨w.heap.size, 3, none⟩) (Nat.le_refl _) _⟩
          · clear hok
            go_wp2_with (go_at_call 152; refine (number_any _ _ (by omega)).mono ?_)
            rintro e w3 ⟨rfl, hb3⟩
            unfold numRet
            rw [HOK.out]
            have hV3 := (hb3.block (w1.heap.size + 1) hVlt).trans hV
            obtain ⟨⟨r0, r1, r2, r3⟩, ⟨f0, f1, f2, f3⟩⟩ := vcells hV3
            have RV := Lib.hid hV3; clear hV3 hRr hV hR2
            go_wp2
            go_roundw
            case rel =>
              refine ⟨1 + 1, by omega, by go_num, ?_, ?_, ?_, ?_, ?_⟩
              · first | exact fun _ => HOK.out | exact fun _ => P0.out (by omega)
              · first | exact fun _ => HOK.out | exact fun _ => P1.out (by omega) | exact fun h => absurd h (by omega)
              · first | exact fun _ => HOK.out | exact fun _ => P2.out (by omega) | exact fun h => absurd h (by omega)
              · rw [heap_setCell_same RV.out]; simp [nAt]
              · exact (below_next hbr hb3 (by omega)).setCell (by show _ ≤ w1.heap.size + 1; omega) _
            case measure => simp [intOf]
        · skip
          obtain ⟨ok, hok⟩ : ∃ ok, (numOut (bs x2)).2 = ok := ⟨_, rfl⟩
          have HOK := Lib.hid hok
          have P0 := Lib.hid p0; have P1 := Lib.hid p1; have P2 := Lib.hid p2
          clear p0 p1 p2
          cases ok
          · have HF := Lib.hid (verRead_three hs128 HXS.out (verThree_bad (.inr <| .inr hok)))
            clear hok
            go_wp2_with (go_at_call 152; refine (number_any _ _ (by omega)).mono ?_)
            rintro e w3 ⟨rfl, hb3⟩
            unfold numRet
            rw [HOK.out]
            have hR3 := (hb3.block w.heap.size (by omega)).trans hRr
            obtain ⟨⟨r0, r1, r2, r3⟩, ⟨f0, f1, f2, f3⟩⟩ := vcells hR3
            have RR := Lib.hid hR3; clear hR3 hRr hV hR2
            go_wp2
            exact bodyPost_ret (v := .tuple #[verZero, .int .i64 70]) (by simp [results, Tryz.results114, go_sem, verZero, r0, r1, r2, r3]) rfl ⟨.inl ⟨HF.out, rfl⟩, ((((bseq hBr hb3).setCell (p := ⟨w.heap.size, 0, none⟩) (Nat.le_refl _) _).setCell (p := ⟨w.heap.size, 1, none⟩) (Nat.le_refl _) _).setCell (p := ⟨w.heap.size, 2, none⟩) (Nat.le_refl _) _).setCell (p := ⟨w.heap.size, 3, none⟩) (Nat.le_refl _) _⟩
          · clear hok
            go_wp2_with (go_at_call 152; refine (number_any _ _ (by omega)).mono ?_)
            rintro e w3 ⟨rfl, hb3⟩
            unfold numRet
            rw [HOK.out]
            have hV3 := (hb3.block (w1.heap.size + 1) hVlt).trans hV
            obtain ⟨⟨r0, r1, r2, r3⟩, ⟨f0, f1, f2, f3⟩⟩ := vcells hV3
            have RV := Lib.hid hV3; clear hV3 hRr hV hR2
            go_wp2
            go_roundw
            case rel =>
              refine ⟨2 + 1, by omega, by go_num, ?_, ?_, ?_, ?_, ?_⟩
              · first | exact fun _ => HOK.out | exact fun _ => P0.out (by omega)
              · first | exact fun _ => HOK.out | exact fun _ => P1.out (by omega) | exact fun h => absurd h (by omega)
              · first | exact fun _ => HOK.out | exact fun _ => P2.out (by omega) | exact fun h => absurd h (by omega)
              · rw [heap_setCell_same RV.out]; simp [nAt]
              · exact (below_next hbr hb3 (by omega)).setCell (by show _ ≤ w1.heap.size + 1; omega) _
            case measure => simp [intOf]
        · have q0 := p0 (by omega); have q1 := p1 (by omega); have q2 := p2 (by omega)
          have HT := Lib.hid (verThree_ok q0 q1 q2)
          clear p0 p1 p2 q0 q1 q2 i0 i1 i2
          have hn0 := numOut_ge (bs x0); have hn1 := numOut_ge (bs x1); have hn2 := numOut_ge (bs x2)
          have e0 : nAt 3 0 (numOut (bs x0)).1 = (numOut (bs x0)).1 := rfl
          have e1 : nAt 3 1 (numOut (bs x1)).1 = (numOut (bs x1)).1 := rfl
          have e2 : nAt 3 2 (numOut (bs x2)).1 = (numOut (bs x2)).1 := rfl
          rw [show (0 + 1 + 1 + 1 : Nat) = 3 from rfl, e0, e1, e2] at hV
          clear e0 e1 e2
          obtain ⟨n0, en0⟩ : ∃ n, (numOut (bs x0)).1 = n := ⟨_, rfl⟩
          obtain ⟨n1, en1⟩ : ∃ n, (numOut (bs x1)).1 = n := ⟨_, rfl⟩
          obtain ⟨n2, en2⟩ : ∃ n, (numOut (bs x2)).1 = n := ⟨_, rfl⟩
          rw [en0] at hV hn0; rw [en1] at hV hn1; rw [en2] at hV hn2
          have HT3 : Hid (verThree [bs x0, bs x1, bs x2] = some (n0, n1, n2)) := Lib.hid (by rw [HT.out, en0, en1, en2])
          clear HT en0 en1 en2 d0 d1 d2 c0 c1 c2 z0 z1 z2
          cases da
          · have HP := Lib.hid (preOf_no HDA.out)
            obtain ⟨⟨r0, r1, r2, r3⟩, ⟨f0, f1, f2, f3⟩⟩ := vcells hV
            have RV := Lib.hid hV; have RR := Lib.hid hRr
            clear hV hRr hR2
            obtain ⟨mb, hmb⟩ : ∃ mb, verMay ⟨n0, n1, n2, []⟩ = mb := ⟨_, rfl⟩
            have HF := Lib.hid (verRead_may hs128 HXS.out HT3.out HP.out hmb)
            have hcall : ∀ W, Calls Tryz.prog 153 #[.agg #[.int .u32 n0, .int .u32 n1, .int .u32 n2, .slice none 0 0]] W fun e w' => e = .returned (.int .i64 (okOr mb 70)) ∧ Below W.heap.size W w' := fun W => by
              have := verMay_any n0 n1 n2 (.slice none 0 0) [] W hn0 hn1 hn2 (StrsAt.nil W)
              rwa [show ([] : List ByteArray).map bs = [] from rfl, hmb] at this
            have HC := Lib.hid hcall
            clear hmb hcall
            go_wp2_with (go_at_call 153; refine (HC.out _).mono ?_)
            rintro e w4 ⟨rfl, hb4⟩
            cases mb
            · simp only [okOr_false]
              have hR4 := (hb4.block w.heap.size (by omega)).trans RR.out
              clear r0 r1 r2 r3 f0 f1 f2 f3
              obtain ⟨⟨r0, r1, r2, r3⟩, ⟨f0, f1, f2, f3⟩⟩ := vcells hR4
              have RR4 := Lib.hid hR4; clear hR4
              go_wp2
              exact bodyPost_ret (v := .tuple #[verZero, .int .i64 70]) (by simp [results, Tryz.results114, go_sem, verZero, r0, r1, r2, r3]) rfl ⟨.inl ⟨by rw [HF.out]; rfl, rfl⟩, ((((bseq hBr hb4).setCell (p := ⟨w.heap.size, 0, none⟩) (Nat.le_refl _) _).setCell (p := ⟨w.heap.size, 1, none⟩) (Nat.le_refl _) _).setCell (p := ⟨w.heap.size, 2, none⟩) (Nat.le_refl _) _).setCell (p := ⟨w.heap.size, 3, none⟩) (Nat.le_refl _) _⟩
            · simp only [okOr_true]
              have hR4 := (hb4.block w.heap.size (by omega)).trans RR.out
              have hV4 := (hb4.block (w1.heap.size + 1) hVlt).trans RV.out
              clear r0 r1 r2 r3 f0 f1 f2 f3
              obtain ⟨⟨r0, r1, r2, r3⟩, ⟨f0, f1, f2, f3⟩⟩ := vcells hR4
              obtain ⟨⟨s0, s1, s2, s3⟩, ⟨g0, g1, g2, g3⟩⟩ := vcells hV4
              have RR4 := Lib.hid hR4; have RV4 := Lib.hid hV4; clear hR4 hV4
              go_wp2_with (go_at_call 107; refine (clipStr_any _ _ _ _ (Nat.le_refl _) (by omega)).mono ?_; rintro e w' ⟨rfl, rfl⟩)
              exact bodyPost_ret (v := .tuple #[.agg #[.int .u32 n0, .int .u32 n1, .int .u32 n2, .slice none 0 0], .int .i64 0]) (by simp [results, Tryz.results114, go_sem, r0, r1, r2, r3, s0, s1, s2, s3]) rfl ⟨.inr ⟨⟨n0, n1, n2, []⟩, by rw [HF.out]; rfl, hn0, hn1, hn2, _, [], rfl, StrsAt.nil _, rfl⟩, ((((((bseq hBr hb4).setCell (p := ⟨w1.heap.size + 1, 3, none⟩) (by show _ ≤ w1.heap.size + 1; omega) _).setCell (p := ⟨w.heap.size, 0, none⟩) (Nat.le_refl _) _).setCell (p := ⟨w.heap.size, 1, none⟩) (Nat.le_refl _) _).setCell (p := ⟨w.heap.size, 2, none⟩) (Nat.le_refl _) _).setCell (p := ⟨w.heap.size, 3, none⟩) (Nat.le_refl _) _)⟩
          · have HP := Lib.hid (preOf_dash HDA.out)
            obtain ⟨⟨r0, r1, r2, r3⟩, ⟨f0, f1, f2, f3⟩⟩ := vcells hV
            have RV := Lib.hid hV; have RR := Lib.hid hRr
            clear hV hRr hR2
            go_wp2_with (go_at_call 151; refine (split_dot _ _ hgr hts).mono ?_)
            rintro e w3 ⟨ys, hys, rfl, hst3, hb3, hsz3⟩
            have HYS := Lib.hid (show preOf (bs s) = ys.map bs by rw [HP.out, hys, bs_mk, HTL.out])
            have hR3 := (hb3.block w.heap.size (by omega)).trans RR.out
            have hV3 := (hb3.block (w1.heap.size + 1) hVlt).trans RV.out
            have hB3 := bseq hBr hb3
            clear r0 r1 r2 r3 f0 f1 f2 f3 hys RV RR HP
            obtain ⟨⟨s0, s1, s2, s3⟩, ⟨g0, g1, g2, g3⟩⟩ := vcells hV3
            have RR3 := Lib.hid hR3; have RV3 := Lib.hid hV3; clear hR3 hV3
            obtain ⟨mb, hmb⟩ : ∃ mb, verMay ⟨n0, n1, n2, ys.map bs⟩ = mb := ⟨_, rfl⟩
            have HF := Lib.hid (verRead_may hs128 HXS.out HT3.out HYS.out hmb)
            have hcall : ∀ W, StrsAt W (.slice (some ⟨wr.heap.size, 0, none⟩) ys.length ys.length) ys → Calls Tryz.prog 153 #[.agg #[.int .u32 n0, .int .u32 n1, .int .u32 n2, .slice (some ⟨wr.heap.size, 0, none⟩) ys.length ys.length]] W fun e w' => e = .returned (.int .i64 (okOr mb 70)) ∧ Below W.heap.size W w' := fun W hW => by
              have := verMay_any n0 n1 n2 _ ys W hn0 hn1 hn2 hW
              rwa [hmb] at this
            have HC := Lib.hid hcall
            have hyn : ys.length ≤ 140737488355328 := by obtain ⟨_, _, _, h, _⟩ := hst3; exact h.2
            have hst4 : StrsAt (w3.setCell ⟨w1.heap.size + 1, 3, none⟩ (.slice (some ⟨wr.heap.size, 0, none⟩) ys.length ys.length)) (.slice (some ⟨wr.heap.size, 0, none⟩) ys.length ys.length) ys := hst3.setCell _ _ _ (by omega)
            clear hmb hcall
            go_wp2_with (go_at_call 153; refine (HC.out _ hst4).mono ?_)
            rintro e w4 ⟨rfl, hb4⟩
            have hst5 := hst4.below hb4
            have hR4 := (hb4.block w.heap.size (by simp; omega)).trans ((heap_setCell_other _ (by omega)).trans RR3.out)
            have hV4 := (hb4.block (w1.heap.size + 1) (by simp; omega)).trans (heap_setCell_same RV3.out _)
            have hB4 := below_next (hB3.setCell (p := ⟨w1.heap.size + 1, 3, none⟩) (by show _ ≤ w1.heap.size + 1; omega) (.slice (some ⟨wr.heap.size, 0, none⟩) ys.length ys.length)) hb4 (by simp; omega)
            have HS5 := Lib.hid hst5
            clear s0 s1 s2 s3 g0 g1 g2 g3 hst3 hst4 hst5
            obtain ⟨⟨r0, r1, r2, r3⟩, ⟨f0, f1, f2, f3⟩⟩ := vcells hR4
            obtain ⟨⟨s0, s1, s2, s3⟩, ⟨g0, g1, g2, g3⟩⟩ := vcells (v3 := .slice (some ⟨wr.heap.size, 0, none⟩) ys.length ys.length) hV4
            have RR4 := Lib.hid hR4; have RV4 := Lib.hid hV4; clear hR4 hV4
            cases mb
            · simp only [okOr_false]
              go_wp2
              exact bodyPost_ret (v := .tuple #[verZero, .int .i64 70]) (by simp [results, Tryz.results114, go_sem, verZero, r0, r1, r2, r3]) rfl ⟨.inl ⟨by rw [HF.out]; rfl, rfl⟩, ((((hB4.setCell (p := ⟨w.heap.size, 0, none⟩) (Nat.le_refl _) _).setCell (p := ⟨w.heap.size, 1, none⟩) (Nat.le_refl _) _).setCell (p := ⟨w.heap.size, 2, none⟩) (Nat.le_refl _) _).setCell (p := ⟨w.heap.size, 3, none⟩) (Nat.le_refl _) _)⟩
            · simp only [okOr_true]
              go_wp2_with (go_at_call 107; refine (clipStr_any _ _ _ _ (Nat.le_refl _) (by omega)).mono ?_; rintro e w' ⟨rfl, rfl⟩)
              exact bodyPost_ret (v := .tuple #[.agg #[.int .u32 n0, .int .u32 n1, .int .u32 n2, .slice (some ⟨wr.heap.size, 0, none⟩) ys.length ys.length], .int .i64 0]) (by simp [results, Tryz.results114, go_sem, r0, r1, r2, r3, s0, s1, s2, s3]) rfl ⟨.inr ⟨⟨n0, n1, n2, ys.map bs⟩, by rw [HF.out]; rfl, hn0, hn1, hn2, _, ys, rfl, ((((HS5.out.setCell _ _ _ (by omega)).setCell _ _ _ (by omega)).setCell _ _ _ (by omega)).setCell _ _ _ (by omega)).setCell _ _ _ (by omega), rfl⟩, (((((hB4.setCell (p := ⟨w1.heap.size + 1, 3, none⟩) (by show _ ≤ w1.heap.size + 1; omega) _).setCell (p := ⟨w.heap.size, 0, none⟩) (Nat.le_refl _) _).setCell (p := ⟨w.heap.size, 1, none⟩) (Nat.le_refl _) _).setCell (p := ⟨w.heap.size, 2, none⟩) (Nat.le_refl _) _).setCell (p := ⟨w.heap.size, 3, none⟩) (Nat.le_refl _) _)⟩
        · omega
    · have HF := Lib.hid (verRead_three hs128 HXS.out (verThree_len (by rw [List.length_map]; exact hl3)))
      have hb3 : ((xs.length : Int) != 3) = true := by rw [bne_iff_ne]; omega
      obtain ⟨⟨r0, r1, r2, r3⟩, ⟨f0, f1, f2, f3⟩⟩ := vcells hR2
      clear hl3 hR2 hst
      go_wp2
      exact bodyPost_ret (v := .tuple #[verZero, .int .i64 70]) (by simp [results, Tryz.results114, go_sem, verZero, r0, r1, r2, r3]) rfl ⟨.inl ⟨HF.out, rfl⟩, ((((hB2.setCell (p := ⟨w.heap.size, 0, none⟩) (Nat.le_refl _) _).setCell (p := ⟨w.heap.size, 1, none⟩) (Nat.le_refl _) _).setCell (p := ⟨w.heap.size, 2, none⟩) (Nat.le_refl _) _).setCell (p := ⟨w.heap.size, 3, none⟩) (Nat.le_refl _) _)⟩
def verIs (l : Bs) : Bool := (verRead l).isSome
set_option maxHeartbeats 1000000 in
set_option maxRecDepth 100000 in
theorem verIs_any (s : ByteArray) (w : World) (hg : Glob w) (hs : s.size ≤ 140737488355328) :
    Calls Tryz.prog 125 #[.string s] w fun e w' => e = .returned (.bool (verIs (bs s))) ∧ Below w.heap.size w w' := by
  have HS := Lib.hid hs; clear hs
  go_enter Tryz.func125, Tryz.ntmps125
  go_wp2_with (go_at_call 114; refine (verRead_any _ _ hg HS.out).mono ?_)
  rintro e w1 ⟨hp, hb1⟩
  rcases hp with ⟨hn, rfl⟩ | ⟨v, hn, _, _, _, pv, xs, rfl, hst, _⟩
  · have HN := Lib.hid hn; clear hn
    unfold verZero
    go_wp2
    go_ret
    exact ⟨ret_bool (by unfold verIs; rw [HN.out]; rfl), hb1.alloc hb1.size _⟩
  · have HN := Lib.hid hn; clear hn
    obtain ⟨A, c, rfl, _⟩ := hst
    go_wp2
    go_ret
    exact ⟨ret_bool (by unfold verIs; rw [HN.out]; rfl), hb1.alloc hb1.size _⟩
end Go.Proofs.YtggdgjifhikmiaaGreatDoor
