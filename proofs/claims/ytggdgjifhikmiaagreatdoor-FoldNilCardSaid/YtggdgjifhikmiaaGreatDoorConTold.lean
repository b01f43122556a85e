/- Contracts of yanklinelaw10.told and is at what fold answers. No condition of its own. -/
import Derived.Test.YtggdgjifhikmiaaGreatDoorConErr
import Derived.Test.YtggdgjifhikmiaaGreatDoorConIs
import Derived.Test.YtggdgjifhikmiaaGreatDoorConAs
import Derived.Test.YtggdgjifhikmiaaGreatDoorConMake
set_option linter.unusedVariables false
namespace Go.Proofs.YtggdgjifhikmiaaGreatDoor
open Go.RowKit Yk
abbrev boxF (v : Value) : Obj := .cells #[v] 109
theorem handleErr : typeHandle Tryz.prog 40 = .pointer (some ⟨14, 40, none⟩) := by kernel_rfl
theorem as_fault (g b : Nat) (w : World) (hg : Glob w) (hb : w.heap[b]? = some (boxF (.pointer none))) :
    Calls Tryz.prog 101 #[faultV g, .iface 147 (ptr b)] w fun e w' => e = .returned (.bool true) ∧ w'.heap[b]? = some (boxF (ptr g)) ∧ Turned [b] w w' := by
  have hlt := (Array.getElem?_eq_some_iff.1 hb).1
  obtain ⟨p, hp, e⟩ := hg.errT
  rw [handleErr] at e
  subst e
  have h0 := cells_of_block hb 0
  have hfz : w.frozen? ⟨b, 0, none⟩ = false := Lib.frozen_of_heap hb 0
  refine (as_hit ⟨g, 0, none⟩ ⟨b, 0, none⟩ (.pointer none) w hp h0 hfz).mono ?_
  rintro e w' ⟨rfl, rfl⟩
  have B : Below w.heap.size w _ := (((((Below.refl w.heap.size w).alloc (Nat.le_refl _) (.cells #[.pointer (some ⟨b, 0, none⟩)] 147)).alloc (by simp) (.cells #[.pointer (some ⟨14, 147, none⟩), .pointer (some ⟨w.heap.size, 0, none⟩), .int .u64 150] 178)).alloc (by simp; omega) (.cells #[.pointer (some ⟨14, 147, none⟩), .pointer (some ⟨w.heap.size, 0, none⟩), .int .u64 150] 178)).alloc (by simp; omega) (.cells #[.pointer (some ⟨g, 0, none⟩)] 109))
  refine ⟨rfl, ?_, (Turned.of_below B).trans (Turned.setCell _) (fun j hj => .inl hj)⟩
  exact heap_setCell_same ((B.block _ hlt).trans hb) _
theorem errs_eq (w : World) (g : Nat) : (binOp .eql 40 (faultV g) .nilIface).run Tryz.prog w = .ok (.bool false) w := by kernel_rfl
theorem naErr (g : Nat) (w : World) : (nilAhead 507 109 (.pointer (some ⟨g, 0, none⟩)) "Error").run Tryz.prog w = .ok (some false) w := by kernel_rfl
theorem mtErr (g : Nat) (w : World) : (method 507 109 (.pointer (some ⟨g, 0, none⟩)) "Error").run Tryz.prog w = .ok (352, .pointer (some ⟨g, 0, none⟩)) w := by kernel_rfl
def tripleE (c : Int) (what : ByteArray) (a : Int) : Ending := .returned (.tuple #[.int .i64 c, .string what, .int .i64 a])
set_option maxHeartbeats 2000000 in
theorem told_nil (w : World) : Calls Tryz.prog 48 #[.nilIface] w fun e w' => e = tripleE 0 eB (-1) ∧ w' = w := by
  go_enter Tryz.func48, Tryz.ntmps48
  go_wp2
  exact bodyPost_ret (v := .tuple #[.int .i64 0, .string eB, .int .i64 (-1)]) (by simp [results, Tryz.results48, go_sem]) rfl ⟨rfl, rfl⟩
set_option maxHeartbeats 4000000 in
set_option maxRecDepth 100000 in
theorem told_fault (g : Nat) (c a : Int) (what : ByteArray) (w : World) (hg : Glob w) (h : w.heap[g]? = some (.cells (faultCells c what a) 108 (0, 0)))
    (HE : ∀ W, Glob W → W.heap[g]? = some (.cells (faultCells c what a) 108 (0, 0)) → Calls Tryz.prog 352 #[ptr g] W fun e w' => ∃ s : ByteArray, e = .returned (.string s) ∧ 0 < s.size ∧ Below W.heap.size W w') :
    Calls Tryz.prog 48 #[faultV g] w fun e w' => e = tripleE c what a ∧ Below w.heap.size w w' := by
  have hlt := (Array.getElem?_eq_some_iff.1 h).1
  have q0 := errs_eq (g := g)
  have B0 : Below w.heap.size w (w.alloc (boxF (.pointer none))) := (Below.refl _ _).alloc (Nat.le_refl _) _
  have b0 := heap_alloc_new w (boxF (.pointer none))
  have g0 := (B0.block _ hlt).trans h
  have HA := Lib.hid (as_fault g w.heap.size _ (hg.next B0) b0)
  have HH := Lib.hid h; have HB0 := Lib.hid B0; have HG := Lib.hid hg; have HEE := Lib.hid HE; have HG0 := Lib.hid g0; have HL := Lib.hid hlt
  have q1 := naErr g; have q2 := mtErr g
  clear h B0 hg HE g0 b0 hlt
  go_enter Tryz.func48, Tryz.ntmps48
  go_wp2_with (go_at_call 101; refine (HA.out).mono ?_)
  rintro e w1 ⟨rfl, hbx, ht⟩
  have B1 : Below w.heap.size w w1 := HB0.out.trans (ht.below _ (fun i hi => by simp only [List.mem_singleton] at hi; omega) (by simp))
  have g1 := (B1.block _ HL.out).trans HH.out
  have bx0 := cells_of_block hbx 0
  obtain c0 := cells_of_block g1 0
  simp only [faultCells] at c0
  have HI := Lib.hid (isErr_any c g what a w1 g1)
  have HB1 := Lib.hid B1; have HG1 := Lib.hid g1; have HBX := Lib.hid hbx; have HT := Lib.hid ht
  clear B1 g1 hbx ht
  go_wp2_with (go_at_call 51; refine (HI.out).mono ?_)
  first | rintro e w2 rfl hb2 | rintro e w2 ⟨rfl, hb2⟩
  have l1 : w.heap.size < w1.heap.size := (Array.getElem?_eq_some_iff.1 HBX.out).1
  have bx2 := (hb2.block _ l1).trans HBX.out
  have g2 := (hb2.block _ (Array.getElem?_eq_some_iff.1 HG1.out).1).trans HG1.out
  have B2 := HB1.out.trans (hb2.mono (Nat.le_of_lt l1))
  have HER := Lib.hid (HEE.out w2 (HG.out.next B2) g2)
  have HB2 := Lib.hid B2; have HG2 := Lib.hid g2; have HBX2 := Lib.hid bx2; have HL1 := Lib.hid l1; have HBB := Lib.hid hb2
  clear B2 g2 bx2 bx0 c0 hb2 l1
  go_wp2_with (go_at_call 352; refine (HER.out).mono ?_)
  rintro e w3 ⟨s, rfl, hs, hb3⟩
  have l2 : w.heap.size < w2.heap.size := (Array.getElem?_eq_some_iff.1 HBX2.out).1
  have bx3 := (hb3.block _ l2).trans HBX2.out
  have g3 := (hb3.block _ (Array.getElem?_eq_some_iff.1 HG2.out).1).trans HG2.out
  have B3 := HB2.out.trans (hb3.mono (Nat.le_of_lt l2))
  have x0 : ∀ m, (w3.drewN m).cell? ⟨w.heap.size, 0, none⟩ = some (ptr g) := fun m => cells_of_block bx3 0
  have x1 : ∀ m, (w3.drewN m).cell? ⟨g, 0, none⟩ = some (.int .i64 c) := fun m => cells_of_block g3 0
  have x2 : ∀ m, (w3.drewN m).cell? ⟨g, 1, none⟩ = some (.string what) := fun m => cells_of_block g3 1
  have x3 : ∀ m, (w3.drewN m).cell? ⟨g, 2, none⟩ = some (.int .i64 a) := fun m => cells_of_block g3 2
  have hse : s.toList.isEmpty = false := by
    have : s.toList ≠ [] := by
      intro q
      have q2 := congrArg List.length q
      rw [ByteArray.toList_eq] at q2
      have : s.data.toList.length = s.size := rfl
      rw [this] at q2
      simp only [List.length_nil] at q2
      omega
    simpa using this
  have hse2 : s.toList ≠ [] := by simpa using hse
  have HB3 := Lib.hid B3
  clear hb3 bx3 g3 B3 hs l2
  go_wp2
  go_quiet (fail)
  go_wp2
  refine bodyPost_ret (v := .tuple #[.int .i64 c, .string what, .int .i64 a]) (by simp [results, Tryz.results48, go_sem]) rfl ⟨rfl, ?_⟩
  exact (show Below w.heap.size w (w3.drewN _) from ⟨HB3.out.os, HB3.out.tape, HB3.out.output, HB3.out.size, HB3.out.block⟩)
end Go.Proofs.YtggdgjifhikmiaaGreatDoor
