/- Contracts of event.may and event.May. Conditions: bounds of the kinds; a contract of the needs is handed in. Contract of event.May: which events may be. Conditions: bounds of the kinds; a contract of the needs is handed in where the kind names them. -/
import Derived.Test.YtggdgjifhikmiaaGreatDoorConEv2
import Derived.Test.YtggdgjifhikmiaaGreatDoorFlt
set_option linter.unusedVariables false
namespace Go.Proofs.YtggdgjifhikmiaaGreatDoor
open Go.RowKit Yk
def StrB (s : ByteArray) : Prop := s.size ≤ 140737488355328
structure EvB (e : Ev) : Prop where
  k0 : 0 ≤ e.kind
  k1 : e.kind ≤ 255
  who : StrB e.who
  nm : StrB e.nm
  ver : StrB e.ver
  hold : StrB e.hold
  note : StrB e.note
  n0 : 0 ≤ e.n
  n1 : e.n ≤ 4294967295
  z0 : 0 ≤ e.size
  z1 : e.size ≤ 4294967295
/-- may a field be? nb: what is said of the needs -/
def mayF (e : Ev) (nb : Bool) (c : Int) : Bool :=
  if c = 119 then holderL (bs e.who) else if c = 110 then nameIs (bs e.nm) else if c = 118 then verIs (bs e.ver)
  else if c = 104 then holderL (bs e.hold) else if c = 109 then holderL (bs e.note) else if c = 116 then decide (e.note.size ≤ 256)
  else if c = 100 then nb else if c = 99 then decide (1 ≤ e.n) else if c = 122 then decide (e.size ≤ 65536) else true
def NeedsCon (nv : Value) (nd : List (ByteArray × ByteArray)) (nb : Bool) : Prop :=
  ∀ W, Glob W → NeedsAt W nv nd → Calls Tryz.prog 126 #[nv] W fun e w' => e = .returned (.bool nb) ∧ Below W.heap.size W w'
theorem okOr_zero (b : Bool) (e : Int) (he : e ≠ 0) : (okOr b e == 0) = b := by cases b <;> simp [okOr, he]
set_option maxHeartbeats 4000000 in
set_option maxRecDepth 100000 in
theorem may_any (c : Int) (k : Int) (who nm ver hold note : ByteArray) (nd : List (ByteArray × ByteArray)) (sm n sz : Int) (nv : Value) (nb : Bool) (w : World)
    (hb : EvB ⟨k, who, nm, ver, nd, sm, n, sz, hold, note⟩) (hg : Glob w) (hn : NeedsAt w nv nd) (HN : c = 100 → NeedsCon nv nd nb)
    (hc : c = 119 ∨ c = 110 ∨ c = 118 ∨ c = 104 ∨ c = 109 ∨ c = 116 ∨ c = 100 ∨ c = 99 ∨ c = 122 ∨ c = 115) :
    Calls Tryz.prog 89 #[.agg (evCells ⟨k, who, nm, ver, nd, sm, n, sz, hold, note⟩ nv), .int .i32 c] w fun e w' =>
      e = .returned (.bool (mayF ⟨k, who, nm, ver, nd, sm, n, sz, hold, note⟩ nb c)) ∧ Below w.heap.size w w' := by
  unfold evCells
  have hn2 := hn
  obtain ⟨A, cp, rfl, _⟩ := hn2
  have hb1 : Below w.heap.size w (w.alloc (.cells (evCells ⟨k, who, nm, ver, nd, sm, n, sz, hold, note⟩ (.slice A nd.length cp)) 36)) := (Below.refl _ _).alloc (Nat.le_refl _) _
  have hg1 := hg.next hb1
  have hnn := hn.below hb1
  obtain ⟨k0, k1, bwho, bnm, bver, bhold, bnote, n0, n1, z0, z1⟩ := hb
  simp only [StrB] at bwho bnm bver bhold bnote
  have BW := Lib.hid bwho; have BN := Lib.hid bnm; have BV := Lib.hid bver; have BH := Lib.hid bhold; have BT := Lib.hid bnote
  clear bwho bnm bver bhold
  rcases hc with rfl | rfl | rfl | rfl | rfl | rfl | rfl | rfl | rfl | rfl
  · obtain ⟨q, hq⟩ : ∃ q, holderL (bs who) = q := ⟨_, rfl⟩
    have HQ : Hid (mayF ⟨k, who, nm, ver, nd, sm, n, sz, hold, note⟩ nb 119 = q) := Lib.hid (by subst hq; rfl)
    have HC : Hid (∀ W, Calls Tryz.prog 123 #[.string who] W fun e w' => e = .returned (.int .i64 (okOr q 61)) ∧ Below W.heap.size W w') := Lib.hid (fun W => by
      have := holder_any who W (by have := BW.out; omega)
      rwa [show holderL who.data.toList = q from hq] at this)
    clear hq
    cases q
    all_goals
      simp only [okOr_false, okOr_true] at HC
      go_enter Tryz.func89, Tryz.ntmps89
      go_wp2_with (go_at_call 123; refine (HC.out _).mono ?_; rintro e w1 ⟨rfl, hb2⟩)
      go_ret
      exact ⟨ret_bool HQ.out.symm, bseq hb1 hb2⟩
  · obtain ⟨q, hq⟩ : ∃ q, nameIs (bs nm) = q := ⟨_, rfl⟩
    have HQ : Hid (mayF ⟨k, who, nm, ver, nd, sm, n, sz, hold, note⟩ nb 110 = q) := Lib.hid (by subst hq; rfl)
    have HC : Hid (∀ W, Calls Tryz.prog 124 #[.string nm] W fun e w' => e = .returned (.bool q) ∧ Below W.heap.size W w') := Lib.hid (fun W => by
      have := nameIs_any nm W (by have := BN.out; omega)
      rwa [show nameIs nm.data.toList = q from hq] at this)
    clear hq
    cases q
    all_goals
      skip
      go_enter Tryz.func89, Tryz.ntmps89
      go_wp2_with (go_at_call 124; refine (HC.out _).mono ?_; rintro e w1 ⟨rfl, hb2⟩)
      go_ret
      exact ⟨ret_bool HQ.out.symm, bseq hb1 hb2⟩
  · obtain ⟨q, hq⟩ : ∃ q, verIs (bs ver) = q := ⟨_, rfl⟩
    have HQ : Hid (mayF ⟨k, who, nm, ver, nd, sm, n, sz, hold, note⟩ nb 118 = q) := Lib.hid (by subst hq; rfl)
    have HC : Hid (∀ W, Glob W → Calls Tryz.prog 125 #[.string ver] W fun e w' => e = .returned (.bool q) ∧ Below W.heap.size W w') := Lib.hid (fun W hW => by
      have := verIs_any ver W hW BV.out
      rwa [hq] at this)
    clear hq
    cases q
    all_goals
      skip
      go_enter Tryz.func89, Tryz.ntmps89
      go_wp2_with (go_at_call 125; refine (HC.out _ hg1).mono ?_; rintro e w1 ⟨rfl, hb2⟩)
      go_ret
      exact ⟨ret_bool HQ.out.symm, bseq hb1 hb2⟩
  · obtain ⟨q, hq⟩ : ∃ q, holderL (bs hold) = q := ⟨_, rfl⟩
    have HQ : Hid (mayF ⟨k, who, nm, ver, nd, sm, n, sz, hold, note⟩ nb 104 = q) := Lib.hid (by subst hq; rfl)
    have HC : Hid (∀ W, Calls Tryz.prog 123 #[.string hold] W fun e w' => e = .returned (.int .i64 (okOr q 61)) ∧ Below W.heap.size W w') := Lib.hid (fun W => by
      have := holder_any hold W (by have := BH.out; omega)
      rwa [show holderL hold.data.toList = q from hq] at this)
    clear hq
    cases q
    all_goals
      simp only [okOr_false, okOr_true] at HC
      go_enter Tryz.func89, Tryz.ntmps89
      go_wp2_with (go_at_call 123; refine (HC.out _).mono ?_; rintro e w1 ⟨rfl, hb2⟩)
      go_ret
      exact ⟨ret_bool HQ.out.symm, bseq hb1 hb2⟩
  · obtain ⟨q, hq⟩ : ∃ q, holderL (bs note) = q := ⟨_, rfl⟩
    have HQ : Hid (mayF ⟨k, who, nm, ver, nd, sm, n, sz, hold, note⟩ nb 109 = q) := Lib.hid (by subst hq; rfl)
    have HC : Hid (∀ W, Calls Tryz.prog 123 #[.string note] W fun e w' => e = .returned (.int .i64 (okOr q 61)) ∧ Below W.heap.size W w') := Lib.hid (fun W => by
      have := holder_any note W (by have := BT.out; omega)
      rwa [show holderL note.data.toList = q from hq] at this)
    clear hq
    cases q
    all_goals
      simp only [okOr_false, okOr_true] at HC
      go_enter Tryz.func89, Tryz.ntmps89
      go_wp2_with (go_at_call 123; refine (HC.out _).mono ?_; rintro e w1 ⟨rfl, hb2⟩)
      go_ret
      exact ⟨ret_bool HQ.out.symm, bseq hb1 hb2⟩
  · have HQ : Hid (mayF ⟨k, who, nm, ver, nd, sm, n, sz, hold, note⟩ nb 116 = decide (note.size ≤ 256)) := Lib.hid rfl
    go_enter Tryz.func89, Tryz.ntmps89
    go_wp2
    go_ret
    exact ⟨ret_bool (by rw [HQ.out]; simp; omega), hb1⟩
  · have HQ : Hid (mayF ⟨k, who, nm, ver, nd, sm, n, sz, hold, note⟩ nb 100 = nb) := Lib.hid rfl
    have HC := Lib.hid (HN rfl)
    clear HN
    go_enter Tryz.func89, Tryz.ntmps89
    go_wp2_with (go_at_call 126; refine (HC.out _ hg1 hnn).mono ?_; rintro e w1 ⟨rfl, hb2⟩)
    go_ret
    exact ⟨ret_bool HQ.out.symm, bseq hb1 hb2⟩
  · have HQ : Hid (mayF ⟨k, who, nm, ver, nd, sm, n, sz, hold, note⟩ nb 99 = decide (1 ≤ n)) := Lib.hid rfl
    go_enter Tryz.func89, Tryz.ntmps89
    go_wp2
    go_ret
    exact ⟨ret_bool HQ.out.symm, hb1⟩
  · have HQ : Hid (mayF ⟨k, who, nm, ver, nd, sm, n, sz, hold, note⟩ nb 122 = decide (sz ≤ 65536)) := Lib.hid rfl
    go_enter Tryz.func89, Tryz.ntmps89
    go_wp2
    go_ret
    exact ⟨ret_bool HQ.out.symm, hb1⟩
  · have HQ : Hid (mayF ⟨k, who, nm, ver, nd, sm, n, sz, hold, note⟩ nb 115 = true) := Lib.hid rfl
    go_enter Tryz.func89, Tryz.ntmps89
    go_wp2
    go_ret
    exact ⟨ret_bool HQ.out.symm, hb1⟩
end Go.Proofs.YtggdgjifhikmiaaGreatDoor
set_option linter.unusedVariables false
namespace Go.Proofs.YtggdgjifhikmiaaGreatDoor
open Go.RowKit Yk
def clrS (pre : Bs) (c : UInt8) (s : ByteArray) : ByteArray := if pre.contains c then eB else s
def clrI (pre : Bs) (c : UInt8) (n : Int) : Int := if pre.contains c then 0 else n
def clrEv (e : Ev) (pre : Bs) : Ev := ⟨e.kind, clrS pre 119 e.who, clrS pre 110 e.nm, clrS pre 118 e.ver, if pre.contains 100 then [] else e.needs, clrI pre 115 e.sum, clrI pre 99 e.n, clrI pre 122 e.size, clrS pre 104 e.hold, if pre.contains 109 || pre.contains 116 then eB else e.note⟩
def clrV (nv : Value) (pre : Bs) : Value := if pre.contains 100 then .slice none 0 0 else nv
def zeroEv (k : Int) : Ev := ⟨k, eB, eB, eB, [], 0, 0, 0, eB, eB⟩
def evMayB (e : Ev) (nb : Bool) : Bool := !(fieldsOf e.kind).isEmpty && ((fieldsOf e.kind).all (fun c => mayF e nb c.toNat) && sameEv (clrEv e (fieldsOf e.kind)) (zeroEv e.kind))
theorem clr_nil (e : Ev) : clrEv e [] = e := rfl
def ten (c : UInt8) : Prop := c = 119 ∨ c = 110 ∨ c = 118 ∨ c = 104 ∨ c = 109 ∨ c = 116 ∨ c = 100 ∨ c = 99 ∨ c = 122 ∨ c = 115
theorem fields_ten (k : Int) : ∀ c ∈ fieldsOf k, ten c := by
  unfold fieldsOf ten
  intro c hc
  repeat' split at hc
  all_goals first | (simp at hc; done) | (simp at hc; first | (rcases hc with h | h | h | h | h | h | h <;> simp [h]) | (rcases hc with h | h | h | h <;> simp [h]) | (rcases hc with h | h | h <;> simp [h]) | (rcases hc with h | h <;> simp [h]))
theorem fields_100 {k : Int} (h : (100 : UInt8) ∈ fieldsOf k) : k = 2 := by
  unfold fieldsOf at h
  repeat' split at h
  all_goals first | assumption | (simp at h)
section
variable (e : Ev) (nv : Value) (pre : Bs)
theorem set119 : (evCells (clrEv e pre) (clrV nv pre)).setIfInBounds 1 (.string eB) = evCells (clrEv e (pre ++ [119])) (clrV nv (pre ++ [119])) := by
  simp [evCells, clrEv, clrV, clrS, clrI]
theorem set110 : (evCells (clrEv e pre) (clrV nv pre)).setIfInBounds 2 (.string eB) = evCells (clrEv e (pre ++ [110])) (clrV nv (pre ++ [110])) := by
  simp [evCells, clrEv, clrV, clrS, clrI]
theorem set118 : (evCells (clrEv e pre) (clrV nv pre)).setIfInBounds 3 (.string eB) = evCells (clrEv e (pre ++ [118])) (clrV nv (pre ++ [118])) := by
  simp [evCells, clrEv, clrV, clrS, clrI]
theorem set104 : (evCells (clrEv e pre) (clrV nv pre)).setIfInBounds 8 (.string eB) = evCells (clrEv e (pre ++ [104])) (clrV nv (pre ++ [104])) := by
  simp [evCells, clrEv, clrV, clrS, clrI]
theorem set109 : (evCells (clrEv e pre) (clrV nv pre)).setIfInBounds 9 (.string eB) = evCells (clrEv e (pre ++ [109])) (clrV nv (pre ++ [109])) := by
  simp [evCells, clrEv, clrV, clrS, clrI]
theorem set116 : (evCells (clrEv e pre) (clrV nv pre)).setIfInBounds 9 (.string eB) = evCells (clrEv e (pre ++ [116])) (clrV nv (pre ++ [116])) := by
  simp [evCells, clrEv, clrV, clrS, clrI]
theorem set100 : (evCells (clrEv e pre) (clrV nv pre)).setIfInBounds 4 (.slice none 0 0) = evCells (clrEv e (pre ++ [100])) (clrV nv (pre ++ [100])) := by
  simp [evCells, clrEv, clrV, clrS, clrI]
theorem set115 : (evCells (clrEv e pre) (clrV nv pre)).setIfInBounds 5 (.int .u64 0) = evCells (clrEv e (pre ++ [115])) (clrV nv (pre ++ [115])) := by
  simp [evCells, clrEv, clrV, clrS, clrI]
theorem set99 : (evCells (clrEv e pre) (clrV nv pre)).setIfInBounds 6 (.int .u32 0) = evCells (clrEv e (pre ++ [99])) (clrV nv (pre ++ [99])) := by
  simp [evCells, clrEv, clrV, clrS, clrI]
theorem set122 : (evCells (clrEv e pre) (clrV nv pre)).setIfInBounds 7 (.int .u32 0) = evCells (clrEv e (pre ++ [122])) (clrV nv (pre ++ [122])) := by
  simp [evCells, clrEv, clrV, clrS, clrI]
end
theorem tenI {c : UInt8} (h : ten c) : (c.toNat : Int) = 119 ∨ (c.toNat : Int) = 110 ∨ (c.toNat : Int) = 118 ∨ (c.toNat : Int) = 104 ∨ (c.toNat : Int) = 109 ∨ (c.toNat : Int) = 116 ∨ (c.toNat : Int) = 100 ∨ (c.toNat : Int) = 99 ∨ (c.toNat : Int) = 122 ∨ (c.toNat : Int) = 115 := by
  unfold ten at h
  rcases h with rfl | rfl | rfl | rfl | rfl | rfl | rfl | rfl | rfl | rfl <;> simp
theorem ten_ascii {c : UInt8} (h : ten c) : c.toNat < 128 := by
  unfold ten at h
  rcases h with rfl | rfl | rfl | rfl | rfl | rfl | rfl | rfl | rfl | rfl <;> decide
def mayRel (e : Ev) (nv : Value) (nb : Bool) (fl : Bs) (w w0 wr : World) : Prop :=
  ∃ pos : Nat, pos ≤ fl.length ∧ (fl.take pos).all (fun c => mayF e nb c.toNat) = true ∧ wr.heap[w.heap.size]? = some (.cells (evCells e nv) 36 (0, 0)) ∧
    wr.heap[w.heap.size + 1]? = some (.cells (evCells (clrEv e (fl.take pos)) (clrV nv (fl.take pos))) 36 (0, 0)) ∧ wr.heap[w.heap.size + 2]? = some (.stringIter (mk fl) pos) ∧ Below w.heap.size w wr
theorem needs_clr {W : World} {nv : Value} {e : Ev} (h : NeedsAt W nv e.needs) (pre : Bs) : NeedsAt W (clrV nv pre) (clrEv e pre).needs := by
  unfold clrV clrEv
  by_cases hc : pre.contains 100 = true
  · simp only [hc, if_true]; exact NeedsAt.nil W
  · simp only [hc, if_false]; exact h
theorem evMay_bad {e : Ev} {nb : Bool} (h : (fieldsOf e.kind).all (fun c => mayF e nb c.toNat) = false) : evMayB e nb = false := by
  unfold evMayB; rw [h, Bool.false_and, Bool.and_false]
theorem evMay_end {e : Ev} {nb : Bool} {fl : Bs} (hfl : fieldsOf e.kind = fl) (h0 : fl.isEmpty = false) (h : fl.all (fun c => mayF e nb c.toNat) = true) : evMayB e nb = sameEv (clrEv e fl) (zeroEv e.kind) := by
  unfold evMayB; rw [hfl, h, h0]; rfl
theorem all_bs_take_snoc (f : UInt8 → Bool) (l : Bs) (k : Nat) (h : k < l.length) : (l.take (k + 1)).all f = ((l.take k).all f && f (l[k]'h)) := by
  rw [List.take_succ_eq_append_getElem h, List.all_append]; simp
theorem all_bs_of_take (f : UInt8 → Bool) (l : Bs) (k : Nat) (h : k < l.length) (hf : f (l[k]'h) = false) : l.all f = false := by
  rw [← List.take_append_drop k l, List.all_append, List.drop_eq_getElem_cons h, List.all_cons, hf]; simp
theorem alloc3 (w : World) (o1 o2 o3 : Obj) : (((w.alloc o1).alloc o2).alloc o3).heap[w.heap.size]? = some o1 ∧ (((w.alloc o1).alloc o2).alloc o3).heap[w.heap.size + 1]? = some o2 ∧ (((w.alloc o1).alloc o2).alloc o3).heap[w.heap.size + 2]? = some o3 := by
  refine ⟨?_, ?_, ?_⟩
  · rw [Lib.alloc_old _ _ _ (by simp; omega), Lib.alloc_old _ _ _ (by simp)]; exact heap_alloc_new _ _
  · rw [Lib.alloc_old _ _ _ (by simp)]; have := heap_alloc_new (w.alloc o1) o2; simpa using this
  · have := heap_alloc_new ((w.alloc o1).alloc o2) o3; simpa using this
set_option maxHeartbeats 4000000 in
set_option maxRecDepth 100000 in
theorem evMay_any (k : Int) (who nm ver hold note : ByteArray) (nd : List (ByteArray × ByteArray)) (sm n sz : Int) (nv : Value) (nb : Bool) (w : World)
    (hb : EvB ⟨k, who, nm, ver, nd, sm, n, sz, hold, note⟩) (hg : Glob w) (hn : NeedsAt w nv nd) (HN : k = 2 → NeedsCon nv nd nb) :
    Calls Tryz.prog 36 #[.agg (evCells ⟨k, who, nm, ver, nd, sm, n, sz, hold, note⟩ nv)] w fun e w' =>
      e = .returned (.int .i64 (okOr (evMayB ⟨k, who, nm, ver, nd, sm, n, sz, hold, note⟩ nb) 90)) ∧ Below w.heap.size w w' := by
  obtain ⟨e, he⟩ : ∃ e : Ev, e = ⟨k, who, nm, ver, nd, sm, n, sz, hold, note⟩ := ⟨_, rfl⟩
  have HEV := Lib.hid he
  obtain ⟨fl, hfl⟩ : ∃ fl, fieldsOf k = fl := ⟨_, rfl⟩
  have hk0 : 0 ≤ k := hb.k0
  have hk1 : k ≤ 255 := hb.k1
  have hn2 := hn
  obtain ⟨A, cp, rfl, _⟩ := hn2
  unfold evCells
  by_cases hemp : fl = []
  · have HF : Hid (evMayB ⟨k, who, nm, ver, nd, sm, n, sz, hold, note⟩ nb = false) := Lib.hid (by
      unfold evMayB; rw [show fieldsOf (Ev.kind ⟨k, who, nm, ver, nd, sm, n, sz, hold, note⟩) = [] from hfl.trans hemp]; rfl)
    have HFL := Lib.hid (hfl.trans hemp)
    clear hfl hemp hb HN he
    go_enter Tryz.func36, Tryz.ntmps36
    go_wp2_with (go_at_call 87; refine (fields_any _ _ hk0 hk1).mono ?_; rintro e1 w1 ⟨rfl, rfl⟩; unfold strE; rw [HFL.out])
    go_ret
    exact ⟨ret_int (by rw [HF.out]; rfl), (Below.refl _ _).alloc (Nat.le_refl _) _⟩
  · have hemp' : fl.isEmpty = false := by simpa using hemp
    have HFL := Lib.hid hfl
    have HTEN : Hid (∀ c ∈ fl, ten c) := Lib.hid (by rw [← hfl]; exact fields_ten k)
    clear hfl hemp he
    have HB := Lib.hid hb
    clear hb
    go_enter Tryz.func36, Tryz.ntmps36
    go_wp2_with (go_at_call 87; refine (fields_any _ _ hk0 hk1).mono ?_; rintro e1 w1 ⟨rfl, rfl⟩; unfold strE; rw [HFL.out])
    go_loopw [] (fun wr => mayRel ⟨k, who, nm, ver, nd, sm, n, sz, hold, note⟩ (.slice A nd.length cp) nb fl w w wr) (fun wr => fl.length - wr.iterPos (w.heap.size + 2))
    case atStart =>
      obtain ⟨a1, a2, a3⟩ := alloc3 w (.cells (evCells ⟨k, who, nm, ver, nd, sm, n, sz, hold, note⟩ (.slice A nd.length cp)) 36) (.cells (evCells ⟨k, who, nm, ver, nd, sm, n, sz, hold, note⟩ (.slice A nd.length cp)) 36) (.stringIter (mk fl) 0)
      exact ⟨0, Nat.zero_le _, by simp, a1, a2, a3, (((Below.refl _ _).alloc (Nat.le_refl _) _).alloc (by simp) _).alloc (by simp; omega) _⟩
    case round =>
      obtain ⟨pos, hps, hall, hE, hR, hit, hbw⟩ := hrel
      have HA := Lib.hid hall; clear hall
      have hsz : w.heap.size + 2 < wr.heap.size := (Array.getElem?_eq_some_iff.1 hit).1
      have hml : (mk fl).size = fl.length := size_mk fl
      have HML := Lib.hid hml; clear hml
      by_cases hp : pos < fl.length
      · have hp' : pos < (mk fl).size := by rw [HML.out]; exact hp
        obtain ⟨c, hcv⟩ : ∃ c, fl[pos]'hp = c := ⟨_, rfl⟩
        have hten : ten c := by rw [← hcv]; exact HTEN.out _ (List.getElem_mem hp)
        have hsc : (mk fl)[pos]'hp' = c := by rw [← hcv]; rfl
        have hnx : ∀ ty, (Instr.next (.pointer (some ⟨w.heap.size + 2, 0, none⟩)) true ty).run Tryz.prog wr = .ok (.tuple #[.bool true, .int .i64 pos, .int .i32 c.toNat]) (wr.iterAt (w.heap.size + 2) (mk fl) (pos + 1)) := fun ty => by
          have := Lib.run_next_ascii_at (P := Tryz.prog) wr (w.heap.size + 2) (mk fl) pos ty hit hp' (by rw [hsc]; exact ten_ascii hten)
          rwa [hsc] at this
        have E0 : (wr.iterAt (w.heap.size + 2) (mk fl) (pos + 1)).heap[w.heap.size]? = _ := (Lib.iterAt_other wr _ _ _ _ (by omega)).trans hE
        have R0 : (wr.iterAt (w.heap.size + 2) (mk fl) (pos + 1)).heap[w.heap.size + 1]? = _ := (Lib.iterAt_other wr _ _ _ _ (by omega)).trans hR
        have I0 := Lib.iterAt_heap wr (w.heap.size + 2) (mk fl) pos (pos + 1) hit
        have B0 := Lib.below_iterAt hbw (k := w.heap.size + 2) (by omega) (mk fl) (pos + 1)
        have hnn0 := hn.below B0
        have hg0 := hg.next B0
        obtain ⟨q, hq⟩ : ∃ q, mayF ⟨k, who, nm, ver, nd, sm, n, sz, hold, note⟩ nb c.toNat = q := ⟨_, rfl⟩
        have HC : Hid (∀ W, Glob W → NeedsAt W (.slice A nd.length cp) nd → Calls Tryz.prog 89 #[.agg (evCells ⟨k, who, nm, ver, nd, sm, n, sz, hold, note⟩ (.slice A nd.length cp)), .int .i32 c.toNat] W fun e w' => e = .returned (.bool q) ∧ Below W.heap.size W w') := Lib.hid (fun W hW hN => by
          have := may_any c.toNat k who nm ver hold note nd sm n sz (.slice A nd.length cp) nb W HB.out hW hN (fun h => HN (fields_100 (by
            have hcm : c ∈ fl := by rw [← hcv]; exact List.getElem_mem hp
            have h100 : c = 100 := by rw [← UInt8.toNat_inj]; simp; omega
            rw [HFL.out, ← h100]; exact hcm))) (tenI hten)
          rwa [hq] at this)
        have HQ := Lib.hid hq
        have HAT := Lib.hid (show fl.all (fun c => mayF ⟨k, who, nm, ver, nd, sm, n, sz, hold, note⟩ nb c.toNat) = false ∨ q = true from by
          cases hqq : q with
          | true => exact .inr rfl
          | false => exact .inl (all_bs_of_take _ fl pos hp (by rw [hcv, hq, hqq])))
        have HTS := Lib.hid (show fl.take (pos + 1) = fl.take pos ++ [c] by rw [List.take_succ_eq_append_getElem hp, hcv])
        have HSN := Lib.hid (all_bs_take_snoc (fun c => mayF ⟨k, who, nm, ver, nd, sm, n, sz, hold, note⟩ nb c.toNat) fl pos hp)
        obtain ⟨e0, e1, e2, e3, e4, e5, e6, e7, e8, e9⟩ := evcells E0
        have HE0 := Lib.hid E0; have HR0 := Lib.hid R0
        have HCV := Lib.hid hcv
        clear hq hE hR E0 R0 hcv hsc
        cases q
        · have HF : Hid (evMayB ⟨k, who, nm, ver, nd, sm, n, sz, hold, note⟩ nb = false) := Lib.hid (evMay_bad (by
            rcases HAT.out with h | h
            · rw [show fieldsOf (Ev.kind ⟨k, who, nm, ver, nd, sm, n, sz, hold, note⟩) = fl from HFL.out]; exact h
            · cases h))
          go_wp2_with (go_at_call 89; refine (HC.out _ hg0 hnn0).mono ?_; rintro e w1 ⟨rfl, hb2⟩)
          go_ret
          exact ⟨ret_int (by rw [HF.out]; rfl), bseq B0 hb2⟩
        · have hszw : w.heap.size + 2 < (wr.iterAt (w.heap.size + 2) (mk fl) (pos + 1)).heap.size := by rw [Lib.iterAt_size]; exact hsz
          unfold ten at hten
          rcases hten with rfl | rfl | rfl | rfl | rfl | rfl | rfl | rfl | rfl | rfl
          · go_wp2_with (go_at_call 89; refine (HC.out _ hg0 hnn0).mono ?_)
            first | rintro e w1 rfl hb2 | rintro e w1 ⟨rfl, hb2⟩
            have E1 := (hb2.block w.heap.size (by omega)).trans HE0.out
            have R1 := (hb2.block (w.heap.size + 1) (by omega)).trans HR0.out
            have I1 := (hb2.block (w.heap.size + 2) (by omega)).trans I0
            have B1 := bseq B0 hb2
            obtain ⟨r0, r1, r2, r3, r4, r5, r6, r7, r8, r9⟩ := evcells R1
            have f1 := Lib.frozen_of_heap R1 1
            have HE1 := Lib.hid E1; have HR1 := Lib.hid R1
            clear E1 R1 e0 e1 e2 e3 e4 e5 e6 e7 e8 e9
            go_wp2
            go_roundw
            case rel =>
              refine ⟨pos + 1, by omega, by rw [HSN.out, HA.out, HCV.out]; exact HQ.out, (heap_setCell_other _ (by omega)).trans HE1.out, ?_, (heap_setCell_other _ (by omega)).trans I1, Below.setCell B1 (by show _ ≤ w.heap.size + 1; omega) _⟩
              rw [heap_setCell_same HR1.out, set119, ← HTS.out]
            case measure =>
              simp only [World.iterPos, heap_setCell_other (b := w.heap.size + 1) (b' := w.heap.size + 2) _ (by omega : w.heap.size + 1 ≠ w.heap.size + 2), I1, hit]
              omega
          · go_wp2_with (go_at_call 89; refine (HC.out _ hg0 hnn0).mono ?_)
            first | rintro e w1 rfl hb2 | rintro e w1 ⟨rfl, hb2⟩
            have E1 := (hb2.block w.heap.size (by omega)).trans HE0.out
            have R1 := (hb2.block (w.heap.size + 1) (by omega)).trans HR0.out
            have I1 := (hb2.block (w.heap.size + 2) (by omega)).trans I0
            have B1 := bseq B0 hb2
            obtain ⟨r0, r1, r2, r3, r4, r5, r6, r7, r8, r9⟩ := evcells R1
            have f1 := Lib.frozen_of_heap R1 2
            have HE1 := Lib.hid E1; have HR1 := Lib.hid R1
            clear E1 R1 e0 e1 e2 e3 e4 e5 e6 e7 e8 e9
            go_wp2
            go_roundw
            case rel =>
              refine ⟨pos + 1, by omega, by rw [HSN.out, HA.out, HCV.out]; exact HQ.out, (heap_setCell_other _ (by omega)).trans HE1.out, ?_, (heap_setCell_other _ (by omega)).trans I1, Below.setCell B1 (by show _ ≤ w.heap.size + 1; omega) _⟩
              rw [heap_setCell_same HR1.out, set110, ← HTS.out]
            case measure =>
              simp only [World.iterPos, heap_setCell_other (b := w.heap.size + 1) (b' := w.heap.size + 2) _ (by omega : w.heap.size + 1 ≠ w.heap.size + 2), I1, hit]
              omega
          · go_wp2_with (go_at_call 89; refine (HC.out _ hg0 hnn0).mono ?_)
            first | rintro e w1 rfl hb2 | rintro e w1 ⟨rfl, hb2⟩
            have E1 := (hb2.block w.heap.size (by omega)).trans HE0.out
            have R1 := (hb2.block (w.heap.size + 1) (by omega)).trans HR0.out
            have I1 := (hb2.block (w.heap.size + 2) (by omega)).trans I0
            have B1 := bseq B0 hb2
            obtain ⟨r0, r1, r2, r3, r4, r5, r6, r7, r8, r9⟩ := evcells R1
            have f1 := Lib.frozen_of_heap R1 3
            have HE1 := Lib.hid E1; have HR1 := Lib.hid R1
            clear E1 R1 e0 e1 e2 e3 e4 e5 e6 e7 e8 e9
            go_wp2
            go_roundw
            case rel =>
              refine ⟨pos + 1, by omega, by rw [HSN.out, HA.out, HCV.out]; exact HQ.out, (heap_setCell_other _ (by omega)).trans HE1.out, ?_, (heap_setCell_other _ (by omega)).trans I1, Below.setCell B1 (by show _ ≤ w.heap.size + 1; omega) _⟩
              rw [heap_setCell_same HR1.out, set118, ← HTS.out]
            case measure =>
              simp only [World.iterPos, heap_setCell_other (b := w.heap.size + 1) (b' := w.heap.size + 2) _ (by omega : w.heap.size + 1 ≠ w.heap.size + 2), I1, hit]
              omega
          · go_wp2_with (go_at_call 89; refine (HC.out _ hg0 hnn0).mono ?_)
            first | rintro e w1 rfl hb2 | rintro e w1 ⟨rfl, hb2⟩
            have E1 := (hb2.block w.heap.size (by omega)).trans HE0.out
            have R1 := (hb2.block (w.heap.size + 1) (by omega)).trans HR0.out
            have I1 := (hb2.block (w.heap.size + 2) (by omega)).trans I0
            have B1 := bseq B0 hb2
            obtain ⟨r0, r1, r2, r3, r4, r5, r6, r7, r8, r9⟩ := evcells R1
            have f1 := Lib.frozen_of_heap R1 8
            have HE1 := Lib.hid E1; have HR1 := Lib.hid R1
            clear E1 R1 e0 e1 e2 e3 e4 e5 e6 e7 e8 e9
            go_wp2
            go_roundw
            case rel =>
              refine ⟨pos + 1, by omega, by rw [HSN.out, HA.out, HCV.out]; exact HQ.out, (heap_setCell_other _ (by omega)).trans HE1.out, ?_, (heap_setCell_other _ (by omega)).trans I1, Below.setCell B1 (by show _ ≤ w.heap.size + 1; omega) _⟩
              rw [heap_setCell_same HR1.out, set104, ← HTS.out]
            case measure =>
              simp only [World.iterPos, heap_setCell_other (b := w.heap.size + 1) (b' := w.heap.size + 2) _ (by omega : w.heap.size + 1 ≠ w.heap.size + 2), I1, hit]
              omega
          · go_wp2_with (go_at_call 89; refine (HC.out _ hg0 hnn0).mono ?_)
            first | rintro e w1 rfl hb2 | rintro e w1 ⟨rfl, hb2⟩
            have E1 := (hb2.block w.heap.size (by omega)).trans HE0.out
            have R1 := (hb2.block (w.heap.size + 1) (by omega)).trans HR0.out
            have I1 := (hb2.block (w.heap.size + 2) (by omega)).trans I0
            have B1 := bseq B0 hb2
            obtain ⟨r0, r1, r2, r3, r4, r5, r6, r7, r8, r9⟩ := evcells R1
            have f1 := Lib.frozen_of_heap R1 9
            have HE1 := Lib.hid E1; have HR1 := Lib.hid R1
            clear E1 R1 e0 e1 e2 e3 e4 e5 e6 e7 e8 e9
            go_wp2
            go_roundw
            case rel =>
              refine ⟨pos + 1, by omega, by rw [HSN.out, HA.out, HCV.out]; exact HQ.out, (heap_setCell_other _ (by omega)).trans HE1.out, ?_, (heap_setCell_other _ (by omega)).trans I1, Below.setCell B1 (by show _ ≤ w.heap.size + 1; omega) _⟩
              rw [heap_setCell_same HR1.out, set109, ← HTS.out]
            case measure =>
              simp only [World.iterPos, heap_setCell_other (b := w.heap.size + 1) (b' := w.heap.size + 2) _ (by omega : w.heap.size + 1 ≠ w.heap.size + 2), I1, hit]
              omega
          · go_wp2_with (go_at_call 89; refine (HC.out _ hg0 hnn0).mono ?_)
            first | rintro e w1 rfl hb2 | rintro e w1 ⟨rfl, hb2⟩
            have E1 := (hb2.block w.heap.size (by omega)).trans HE0.out
            have R1 := (hb2.block (w.heap.size + 1) (by omega)).trans HR0.out
            have I1 := (hb2.block (w.heap.size + 2) (by omega)).trans I0
            have B1 := bseq B0 hb2
            obtain ⟨r0, r1, r2, r3, r4, r5, r6, r7, r8, r9⟩ := evcells R1
            have f1 := Lib.frozen_of_heap R1 9
            have HE1 := Lib.hid E1; have HR1 := Lib.hid R1
            clear E1 R1 e0 e1 e2 e3 e4 e5 e6 e7 e8 e9
            go_wp2
            go_roundw
            case rel =>
              refine ⟨pos + 1, by omega, by rw [HSN.out, HA.out, HCV.out]; exact HQ.out, (heap_setCell_other _ (by omega)).trans HE1.out, ?_, (heap_setCell_other _ (by omega)).trans I1, Below.setCell B1 (by show _ ≤ w.heap.size + 1; omega) _⟩
              rw [heap_setCell_same HR1.out, set116, ← HTS.out]
            case measure =>
              simp only [World.iterPos, heap_setCell_other (b := w.heap.size + 1) (b' := w.heap.size + 2) _ (by omega : w.heap.size + 1 ≠ w.heap.size + 2), I1, hit]
              omega
          · go_wp2_with (go_at_call 89; refine (HC.out _ hg0 hnn0).mono ?_)
            first | rintro e w1 rfl hb2 | rintro e w1 ⟨rfl, hb2⟩
            have E1 := (hb2.block w.heap.size (by omega)).trans HE0.out
            have R1 := (hb2.block (w.heap.size + 1) (by omega)).trans HR0.out
            have I1 := (hb2.block (w.heap.size + 2) (by omega)).trans I0
            have B1 := bseq B0 hb2
            obtain ⟨r0, r1, r2, r3, r4, r5, r6, r7, r8, r9⟩ := evcells R1
            have f1 := Lib.frozen_of_heap R1 4
            have HE1 := Lib.hid E1; have HR1 := Lib.hid R1
            clear E1 R1 e0 e1 e2 e3 e4 e5 e6 e7 e8 e9
            go_wp2
            go_roundw
            case rel =>
              refine ⟨pos + 1, by omega, by rw [HSN.out, HA.out, HCV.out]; exact HQ.out, (heap_setCell_other _ (by omega)).trans HE1.out, ?_, (heap_setCell_other _ (by omega)).trans I1, Below.setCell B1 (by show _ ≤ w.heap.size + 1; omega) _⟩
              rw [heap_setCell_same HR1.out, set100, ← HTS.out]
            case measure =>
              simp only [World.iterPos, heap_setCell_other (b := w.heap.size + 1) (b' := w.heap.size + 2) _ (by omega : w.heap.size + 1 ≠ w.heap.size + 2), I1, hit]
              omega
          · go_wp2_with (go_at_call 89; refine (HC.out _ hg0 hnn0).mono ?_)
            first | rintro e w1 rfl hb2 | rintro e w1 ⟨rfl, hb2⟩
            have E1 := (hb2.block w.heap.size (by omega)).trans HE0.out
            have R1 := (hb2.block (w.heap.size + 1) (by omega)).trans HR0.out
            have I1 := (hb2.block (w.heap.size + 2) (by omega)).trans I0
            have B1 := bseq B0 hb2
            obtain ⟨r0, r1, r2, r3, r4, r5, r6, r7, r8, r9⟩ := evcells R1
            have f1 := Lib.frozen_of_heap R1 6
            have HE1 := Lib.hid E1; have HR1 := Lib.hid R1
            clear E1 R1 e0 e1 e2 e3 e4 e5 e6 e7 e8 e9
            go_wp2
            go_roundw
            case rel =>
              refine ⟨pos + 1, by omega, by rw [HSN.out, HA.out, HCV.out]; exact HQ.out, (heap_setCell_other _ (by omega)).trans HE1.out, ?_, (heap_setCell_other _ (by omega)).trans I1, Below.setCell B1 (by show _ ≤ w.heap.size + 1; omega) _⟩
              rw [heap_setCell_same HR1.out, set99, ← HTS.out]
            case measure =>
              simp only [World.iterPos, heap_setCell_other (b := w.heap.size + 1) (b' := w.heap.size + 2) _ (by omega : w.heap.size + 1 ≠ w.heap.size + 2), I1, hit]
              omega
          · go_wp2_with (go_at_call 89; refine (HC.out _ hg0 hnn0).mono ?_)
            first | rintro e w1 rfl hb2 | rintro e w1 ⟨rfl, hb2⟩
            have E1 := (hb2.block w.heap.size (by omega)).trans HE0.out
            have R1 := (hb2.block (w.heap.size + 1) (by omega)).trans HR0.out
            have I1 := (hb2.block (w.heap.size + 2) (by omega)).trans I0
            have B1 := bseq B0 hb2
            obtain ⟨r0, r1, r2, r3, r4, r5, r6, r7, r8, r9⟩ := evcells R1
            have f1 := Lib.frozen_of_heap R1 7
            have HE1 := Lib.hid E1; have HR1 := Lib.hid R1
            clear E1 R1 e0 e1 e2 e3 e4 e5 e6 e7 e8 e9
            go_wp2
            go_roundw
            case rel =>
              refine ⟨pos + 1, by omega, by rw [HSN.out, HA.out, HCV.out]; exact HQ.out, (heap_setCell_other _ (by omega)).trans HE1.out, ?_, (heap_setCell_other _ (by omega)).trans I1, Below.setCell B1 (by show _ ≤ w.heap.size + 1; omega) _⟩
              rw [heap_setCell_same HR1.out, set122, ← HTS.out]
            case measure =>
              simp only [World.iterPos, heap_setCell_other (b := w.heap.size + 1) (b' := w.heap.size + 2) _ (by omega : w.heap.size + 1 ≠ w.heap.size + 2), I1, hit]
              omega
          · go_wp2_with (go_at_call 89; refine (HC.out _ hg0 hnn0).mono ?_)
            first | rintro e w1 rfl hb2 | rintro e w1 ⟨rfl, hb2⟩
            have E1 := (hb2.block w.heap.size (by omega)).trans HE0.out
            have R1 := (hb2.block (w.heap.size + 1) (by omega)).trans HR0.out
            have I1 := (hb2.block (w.heap.size + 2) (by omega)).trans I0
            have B1 := bseq B0 hb2
            obtain ⟨r0, r1, r2, r3, r4, r5, r6, r7, r8, r9⟩ := evcells R1
            have f1 := Lib.frozen_of_heap R1 5
            have HE1 := Lib.hid E1; have HR1 := Lib.hid R1
            clear E1 R1 e0 e1 e2 e3 e4 e5 e6 e7 e8 e9
            go_wp2
            go_roundw
            case rel =>
              refine ⟨pos + 1, by omega, by rw [HSN.out, HA.out, HCV.out]; exact HQ.out, (heap_setCell_other _ (by omega)).trans HE1.out, ?_, (heap_setCell_other _ (by omega)).trans I1, Below.setCell B1 (by show _ ≤ w.heap.size + 1; omega) _⟩
              rw [heap_setCell_same HR1.out, set115, ← HTS.out]
            case measure =>
              simp only [World.iterPos, heap_setCell_other (b := w.heap.size + 1) (b' := w.heap.size + 2) _ (by omega : w.heap.size + 1 ≠ w.heap.size + 2), I1, hit]
              omega
      · have hnx : ∀ ty, (Instr.next (.pointer (some ⟨w.heap.size + 2, 0, none⟩)) true ty).run Tryz.prog wr = _ := fun ty => Lib.run_next_end_at wr (w.heap.size + 2) (mk fl) pos ty hit (by rw [HML.out]; exact hp)
        have hpe : fl.take pos = fl := List.take_of_length_le (by omega)
        rw [hpe] at hR
        have hnr := needs_clr (e := ⟨k, who, nm, ver, nd, sm, n, sz, hold, note⟩) (hn.below hbw) fl
        have HFIN := Lib.hid (evMay_end (e := ⟨k, who, nm, ver, nd, sm, n, sz, hold, note⟩) (nb := nb) (fl := fl) HFL.out hemp' (by have := HA.out; rwa [hpe] at this))
        obtain ⟨q, hq⟩ : ∃ q, sameEv (clrEv ⟨k, who, nm, ver, nd, sm, n, sz, hold, note⟩ fl) (zeroEv k) = q := ⟨_, rfl⟩
        obtain ⟨e0, e1, e2, e3, e4, e5, e6, e7, e8, e9⟩ := evcells hE
        obtain ⟨r0, r1, r2, r3, r4, r5, r6, r7, r8, r9⟩ := evcells hR
        have HC : Hid (∀ W, NeedsAt W (clrV (.slice A nd.length cp) fl) (clrEv ⟨k, who, nm, ver, nd, sm, n, sz, hold, note⟩ fl).needs → Calls Tryz.prog 90 #[.agg (evCells (clrEv ⟨k, who, nm, ver, nd, sm, n, sz, hold, note⟩ fl) (clrV (.slice A nd.length cp) fl)), .agg #[.int .u8 k, .string eB, .string eB, .string eB, .slice none 0 0, .int .u64 0, .int .u32 0, .int .u32 0, .string eB, .string eB]] W fun e w' => e = .returned (.bool q) ∧ Below W.heap.size W w') := Lib.hid (fun W hN => by
          rw [← hq]; exact sameEv_any k k (clrS fl 119 who) (clrS fl 110 nm) (clrS fl 118 ver) (clrS fl 104 hold) _ eB eB eB eB eB _ [] _ _ _ 0 0 0 _ (.slice none 0 0) W hN (NeedsAt.nil W))
        have HQ := Lib.hid hq
        clear hq hE hR hpe
        cases q
        · go_wp2_with (go_at_call 90; refine (HC.out _ hnr).mono ?_; rintro e w1 ⟨rfl, hb2⟩)
          go_ret
          exact ⟨ret_int (by rw [HFIN.out]; rw [show sameEv (clrEv ⟨k, who, nm, ver, nd, sm, n, sz, hold, note⟩ fl) (zeroEv k) = false from HQ.out]; rfl), bseq hbw hb2⟩
        · go_wp2_with (go_at_call 90; refine (HC.out _ hnr).mono ?_; rintro e w1 ⟨rfl, hb2⟩)
          go_ret
          exact ⟨ret_int (by rw [HFIN.out]; rw [show sameEv (clrEv ⟨k, who, nm, ver, nd, sm, n, sz, hold, note⟩ fl) (zeroEv k) = true from HQ.out]; rfl), bseq hbw hb2⟩
end Go.Proofs.YtggdgjifhikmiaaGreatDoor
