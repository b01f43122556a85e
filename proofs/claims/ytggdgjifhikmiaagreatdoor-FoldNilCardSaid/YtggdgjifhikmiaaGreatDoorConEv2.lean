/- Contracts of slices.Equal over needs, event.Same, event.may, event.May. Conditions: bounds of the kinds; the needs' own contract is handed in. -/
import Derived.Test.YtggdgjifhikmiaaGreatDoorConEv
import Derived.Laws.StructEq
import Derived.Deep.QuietTactic
import Derived.BigQuiet
set_option linter.unusedVariables false
namespace Go.Proofs.YtggdgjifhikmiaaGreatDoor
open Go.RowKit Yk
/-- A slice that reads as these needs. -/
def NeedsAt (w : World) (v : Value) (xs : List (ByteArray × ByteArray)) : Prop :=
  ∃ A c, v = .slice A xs.length c ∧ (xs.length ≤ c ∧ xs.length * 32 ≤ 140737488355328) ∧ (∀ x ∈ xs, x.1.size ≤ 140737488355328 ∧ x.2.size ≤ 140737488355328) ∧
    (0 < xs.length → ∃ b off, A = some ⟨b, off, none⟩ ∧ b < w.heap.size ∧ ∀ j (h : j < xs.length), w.cell? ⟨b, off + j * 2, none⟩ = some (.string (xs[j]'h).1) ∧ w.cell? ⟨b, off + j * 2 + 1, none⟩ = some (.string (xs[j]'h).2))
theorem NeedsAt.below {w w' : World} {v : Value} {xs : List (ByteArray × ByteArray)} (h : NeedsAt w v xs) (hb : Below w.heap.size w w') : NeedsAt w' v xs := by
  obtain ⟨A, c, rfl, hm, hx, ha⟩ := h
  refine ⟨A, c, rfl, hm, hx, fun h0 => ?_⟩
  obtain ⟨b, off, hA, hlt, hc⟩ := ha h0
  exact ⟨b, off, hA, Nat.lt_of_lt_of_le hlt hb.size, fun j hj => by rw [cell_block (hb.block _ hlt), cell_block (hb.block _ hlt)]; exact hc j hj⟩
theorem NeedsAt.nil (w : World) : NeedsAt w (.slice none 0 0) [] := ⟨none, 0, rfl, by simp, by simp, fun h => by simp at h⟩
theorem bytes_eq {a b : ByteArray} (h : a.toList = b.toList) : a = b := by
  rw [Lib.toList_data, Lib.toList_data] at h
  obtain ⟨⟨x⟩⟩ := a
  obtain ⟨⟨y⟩⟩ := b
  have : x = y := h
  rw [this]
def eqRel (n : Nat) (xs ys : List (ByteArray × ByteArray)) (i : Value) : Prop := ∃ k : Nat, k ≤ n ∧ i = .int .i64 k ∧ xs.take k = ys.take k
theorem take_snoc_eq {α : Type} {xs ys : List α} {k : Nat} (hx : k < xs.length) (hy : k < ys.length) (h : xs.take k = ys.take k) (he : xs[k]'hx = ys[k]'hy) : xs.take (k + 1) = ys.take (k + 1) := by
  rw [List.take_succ_eq_append_getElem hx, List.take_succ_eq_append_getElem hy, h, he]
set_option maxHeartbeats 2000000 in
set_option maxRecDepth 100000 in
theorem equalNeeds_any (v u : Value) (xs ys : List (ByteArray × ByteArray)) (w : World) (hx : NeedsAt w v xs) (hy : NeedsAt w u ys) :
    Calls Tryz.prog 116 #[v, u] w fun e w' => e = .returned (.bool (decide (xs = ys))) ∧ Below w.heap.size w w' := by
  obtain ⟨A, c, rfl, hm, hsz, ha⟩ := hx
  obtain ⟨B, d, rfl, hm2, hsz2, hb⟩ := hy
  by_cases hn : xs.length = ys.length
  · obtain ⟨n, h1⟩ : ∃ n, xs.length = n := ⟨_, rfl⟩
    have h2 : ys.length = n := by omega
    rw [h1] at hm ⊢; rw [h2] at hm2 ⊢
    have HA := Lib.hid ha; have HB := Lib.hid hb; have H1 := Lib.hid h1; have H2 := Lib.hid h2
    clear hsz hsz2 ha hb h1 h2 hn
    go_enter Tryz.func116, Tryz.ntmps116
    go_wp2
    go_loopw [13] (fun i wr => eqRel n xs ys i ∧ Below w.heap.size w wr) (fun i _ => n - (intOf i).toNat)
    case atStart => exact ⟨⟨0, Nat.zero_le _, rfl, by simp⟩, Below.refl _ _⟩
    case round =>
      obtain ⟨⟨k, hk, rfl, hpre⟩, hbw⟩ := hrel
      have HP := Lib.hid hpre; clear hpre
      by_cases hlt : k < n
      · have hx1 : k < xs.length := by rw [H1.out]; exact hlt
        have hy1 : k < ys.length := by rw [H2.out]; exact hlt
        obtain ⟨b1, o1, rfl, hl1, hc1⟩ := HA.out (by omega)
        obtain ⟨b2, o2, rfl, hl2, hc2⟩ := HB.out (by omega)
        obtain ⟨c1, c2⟩ := hc1 k hx1
        obtain ⟨c3, c4⟩ := hc2 k hy1
        rw [← cell_block (hbw.block _ hl1)] at c1 c2
        rw [← cell_block (hbw.block _ hl2)] at c3 c4
        obtain ⟨a1, e1⟩ : ∃ a, (xs[k]'hx1).1 = a := ⟨_, rfl⟩
        obtain ⟨a2, e2⟩ : ∃ a, (xs[k]'hx1).2 = a := ⟨_, rfl⟩
        obtain ⟨a3, e3⟩ : ∃ a, (ys[k]'hy1).1 = a := ⟨_, rfl⟩
        obtain ⟨a4, e4⟩ : ∃ a, (ys[k]'hy1).2 = a := ⟨_, rfl⟩
        rw [e1] at c1; rw [e2] at c2; rw [e3] at c3; rw [e4] at c4
        have E1 := Lib.hid e1; have E2 := Lib.hid e2; have E3 := Lib.hid e3; have E4 := Lib.hid e4
        clear e1 e2 e3 e4 hc1 hc2
        have i0 : (0 : Int) ≤ k := by omega
        have i1 : (k : Int) < n := by omega
        by_cases q1 : a1.toList = a3.toList
        · obtain rfl := bytes_eq q1
          clear q1
          by_cases q2 : a2.toList = a4.toList
          · obtain rfl := bytes_eq q2
            clear q2
            have HT := Lib.hid (take_snoc_eq hx1 hy1 HP.out (Prod.ext (E1.out.trans E3.out.symm) (E2.out.trans E4.out.symm)))
            go_wp2
            go_quiet (fail)
            go_wp2
            go_roundw
            case rel => exact ⟨⟨k + 1, by omega, by go_num, HT.out⟩, by exact hbw.trans (Below.mono (below_drewN'' _ _) hbw.size)⟩
            case measure => simp [intOf]; omega
          · have HF : Hid (decide (xs = ys) = false) := Lib.hid (by
              rw [decide_eq_false_iff_not]; intro h; subst h
              exact q2 (by rw [← E2.out, ← E4.out]))
            go_wp2
            go_quiet (fail)
            go_wp2
            go_ret
            exact ⟨ret_bool HF.out.symm, hbw.trans (Below.mono (below_drewN'' _ _) hbw.size)⟩
        · have HF : Hid (decide (xs = ys) = false) := Lib.hid (by
            rw [decide_eq_false_iff_not]; intro h; subst h
            exact q1 (by rw [← E1.out, ← E3.out]))
          go_wp2
          go_quiet (fail)
          go_wp2
          go_ret
          exact ⟨ret_bool HF.out.symm, hbw.trans (Below.mono (below_drewN'' _ _) hbw.size)⟩
      · have HF : Hid (decide (xs = ys) = true) := Lib.hid (by
          have := HP.out
          rw [List.take_of_length_le (by rw [H1.out]; omega), List.take_of_length_le (by rw [H2.out]; omega)] at this
          simpa using this)
        go_wp2
        go_ret
        exact ⟨ret_bool HF.out.symm, hbw⟩
  · have HF : Hid (decide (xs = ys) = false) := Lib.hid (by rw [decide_eq_false_iff_not]; intro h; exact hn (by rw [h]))
    have hne : ((xs.length : Int) != ys.length) = true := by rw [bne_iff_ne]; omega
    clear hn ha hb hsz hsz2
    go_enter Tryz.func116, Tryz.ntmps116
    go_wp2
    go_ret
    exact ⟨ret_bool HF.out.symm, Below.refl _ _⟩
/-- what stands in an event -/
structure Ev where
  kind : Int
  who : ByteArray
  nm : ByteArray
  ver : ByteArray
  needs : List (ByteArray × ByteArray)
  sum : Int
  n : Int
  size : Int
  hold : ByteArray
  note : ByteArray
abbrev evCells (e : Ev) (nv : Value) : Array Value := #[.int .u8 e.kind, .string e.who, .string e.nm, .string e.ver, nv, .int .u64 e.sum, .int .u32 e.n, .int .u32 e.size, .string e.hold, .string e.note]
theorem evcells {w : World} {b : Nat} {e : Ev} {nv : Value} {T : TypeId} {fz : Nat × Nat} (h : w.heap[b]? = some (.cells (evCells e nv) T fz)) :
    w.cell? ⟨b, 0, none⟩ = some (.int .u8 e.kind) ∧ w.cell? ⟨b, 1, none⟩ = some (.string e.who) ∧ w.cell? ⟨b, 2, none⟩ = some (.string e.nm) ∧ w.cell? ⟨b, 3, none⟩ = some (.string e.ver) ∧ w.cell? ⟨b, 4, none⟩ = some nv ∧
    w.cell? ⟨b, 5, none⟩ = some (.int .u64 e.sum) ∧ w.cell? ⟨b, 6, none⟩ = some (.int .u32 e.n) ∧ w.cell? ⟨b, 7, none⟩ = some (.int .u32 e.size) ∧ w.cell? ⟨b, 8, none⟩ = some (.string e.hold) ∧ w.cell? ⟨b, 9, none⟩ = some (.string e.note) := by
  refine ⟨?_, ?_, ?_, ?_, ?_, ?_, ?_, ?_, ?_, ?_⟩ <;> (unfold World.cell?; rw [h]; rfl)
def sameEv (a b : Ev) : Bool := decide (a.needs = b.needs) && (a.kind == b.kind && a.who.toList == b.who.toList && a.nm.toList == b.nm.toList && a.ver.toList == b.ver.toList && a.sum == b.sum && a.n == b.n && a.size == b.size && a.hold.toList == b.hold.toList && a.note.toList == b.note.toList)
set_option maxHeartbeats 4000000 in
set_option maxRecDepth 100000 in
theorem sameEv_any (k1 k2 : Int) (who1 nm1 ver1 hold1 note1 who2 nm2 ver2 hold2 note2 : ByteArray) (nd1 nd2 : List (ByteArray × ByteArray)) (sm1 n1 sz1 sm2 n2 sz2 : Int) (v u : Value) (w : World) (hx : NeedsAt w v nd1) (hy : NeedsAt w u nd2) :
    Calls Tryz.prog 90 #[.agg (evCells ⟨k1, who1, nm1, ver1, nd1, sm1, n1, sz1, hold1, note1⟩ v), .agg (evCells ⟨k2, who2, nm2, ver2, nd2, sm2, n2, sz2, hold2, note2⟩ u)] w fun e w' =>
      e = .returned (.bool (sameEv ⟨k1, who1, nm1, ver1, nd1, sm1, n1, sz1, hold1, note1⟩ ⟨k2, who2, nm2, ver2, nd2, sm2, n2, sz2, hold2, note2⟩)) ∧ Below w.heap.size w w' := by
  unfold evCells
  have hx2 := hx; have hy2 := hy
  obtain ⟨A, c, rfl, _⟩ := hx2
  obtain ⟨B, d, rfl, _⟩ := hy2
  have hb1 : Below w.heap.size w ((w.alloc (.cells (evCells ⟨k1, who1, nm1, ver1, nd1, sm1, n1, sz1, hold1, note1⟩ (.slice A nd1.length c)) 36)).alloc (.cells (evCells ⟨k2, who2, nm2, ver2, nd2, sm2, n2, sz2, hold2, note2⟩ (.slice B nd2.length d)) 36)) := ((Below.refl _ _).alloc (Nat.le_refl _) _).alloc (by simp) _
  obtain ⟨q, hq⟩ : ∃ q, decide (nd1 = nd2) = q := ⟨_, rfl⟩
  have HS : Hid (∀ r, r = (k1 == k2 && who1.toList == who2.toList && nm1.toList == nm2.toList && ver1.toList == ver2.toList && sm1 == sm2 && n1 == n2 && sz1 == sz2 && hold1.toList == hold2.toList && note1.toList == note2.toList) → sameEv ⟨k1, who1, nm1, ver1, nd1, sm1, n1, sz1, hold1, note1⟩ ⟨k2, who2, nm2, ver2, nd2, sm2, n2, sz2, hold2, note2⟩ = (q && r)) := Lib.hid (fun r hr => by subst hr; subst hq; rfl)
  have HE : Hid (∀ W, NeedsAt W (.slice A nd1.length c) nd1 → NeedsAt W (.slice B nd2.length d) nd2 → Calls Tryz.prog 116 #[.slice A nd1.length c, .slice B nd2.length d] W fun e w' => e = .returned (.bool q) ∧ Below W.heap.size W w') := Lib.hid (fun W h1 h2 => by
    have := equalNeeds_any _ _ nd1 nd2 W h1 h2
    rwa [hq] at this)
  clear hq
  cases q
  · go_enter Tryz.func90, Tryz.ntmps90
    go_wp2_with (go_at_call 116; refine (HE.out _ (hx.below hb1) (hy.below hb1)).mono ?_)
    rintro e w1 ⟨rfl, hb2⟩
    go_wp2
    go_ret
    exact ⟨ret_bool (by rw [HS.out _ rfl]; rfl), bseq hb1 hb2⟩
  · go_enter Tryz.func90, Tryz.ntmps90
    go_wp2_with (go_at_call 116; refine (HE.out _ (hx.below hb1) (hy.below hb1)).mono ?_)
    rintro e w1 ⟨rfl, hb2⟩
    have hA : w1.heap[w.heap.size]? = some (.cells (evCells ⟨k1, who1, nm1, ver1, nd1, sm1, n1, sz1, hold1, note1⟩ (.slice A nd1.length c)) 36 (0, 0)) :=
      (hb2.block w.heap.size (by simp; omega)).trans ((Lib.alloc_old _ _ _ (by simp)).trans (heap_alloc_new _ _))
    have hB : w1.heap[w.heap.size + 1]? = some (.cells (evCells ⟨k2, who2, nm2, ver2, nd2, sm2, n2, sz2, hold2, note2⟩ (.slice B nd2.length d)) 36 (0, 0)) :=
      (hb2.block (w.heap.size + 1) (by simp)).trans (by
        have := heap_alloc_new (w.alloc (.cells (evCells ⟨k1, who1, nm1, ver1, nd1, sm1, n1, sz1, hold1, note1⟩ (.slice A nd1.length c)) 36)) (.cells (evCells ⟨k2, who2, nm2, ver2, nd2, sm2, n2, sz2, hold2, note2⟩ (.slice B nd2.length d)) 36)
        simpa using this)
    obtain ⟨a0, a1, a2, a3, a4, a5, a6, a7, a8, a9⟩ := evcells hA
    obtain ⟨b0, b1, b2, b3, b4, b5, b6, b7, b8, b9⟩ := evcells hB
    clear hA hB
    go_wp2
    all_goals
      go_ret
      refine ⟨ret_bool ?_, bseq hb1 hb2⟩
      rw [HS.out _ rfl]
      clear HS HE a0 a1 a2 a3 a4 a5 a6 a7 a8 a9 b0 b1 b2 b3 b4 b5 b6 b7 b8 b9
      first | rfl | (simp; done) | (simp_all; done) | skip
end Go.Proofs.YtggdgjifhikmiaaGreatDoor
