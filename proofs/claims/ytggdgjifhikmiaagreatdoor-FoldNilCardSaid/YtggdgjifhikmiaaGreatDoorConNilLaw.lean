/- The walk of yanklinelaw10.FoldNil. Conditions: bounds of the texts. -/
import Derived.Test.YtggdgjifhikmiaaGreatDoorConAlive
import Derived.Test.YtggdgjifhikmiaaGreatDoorConNil
import Derived.RangeFuncNested
import Derived.RangeFuncBound
import Derived.RangeFuncCalls
import Derived.RangeFuncLeaves
import Derived.Shelf.Abstract
import Derived.Shelf.RegionOpen
import Derived.OwnWalkIn
import Derived.TacticsInMore
import Derived.LoopNIn
import Derived.LoopIn
set_option linter.unusedVariables false
namespace Go.Proofs.YtggdgjifhikmiaaGreatDoor
open Go.RowKit Go.Shelf Yk
attribute [local go_sem] Oper.semAt_some
set_option maxHeartbeats 1000000 in
theorem likeNil (n : ByteArray) (w : World) (hs : n.size ≤ 9223372036854775807) : Calls Tryz.prog 25 #[.pointer none, .string n] w fun e w' => e = .returned (.tuple #[.string eB, .bool false]) ∧ Below w.heap.size w w' := by
  have HC : Hid (∃ s k, Calls Tryz.prog 57 #[.string n] w fun e w' => e = .returned (.tuple #[.string s, .int .i64 k]) ∧ Below w.heap.size w w') := Lib.hid (by
    cases ho : norm n.data.toList with
    | none => exact ⟨_, _, (norm_any n w hs).mono (by rintro e w' ⟨rfl, hb⟩; rw [ho]; exact ⟨rfl, hb⟩)⟩
    | some l => exact ⟨_, _, (norm_any n w hs).mono (by rintro e w' ⟨rfl, hb⟩; rw [ho]; exact ⟨rfl, hb⟩)⟩)
  obtain ⟨s, k, hc⟩ := HC.out
  have HC2 := Lib.hid hc
  clear HC hc hs
  go_enter Tryz.func25, Tryz.ntmps25
  go_wp2_with (go_at_call 57; (with_reducible refine (HC2.out).mono ?_))
  first | rintro e w1 rfl hb | rintro e w1 ⟨rfl, hb⟩
  go_wp2
  go_ret2
  exact ⟨rfl, hb⟩
set_option maxHeartbeats 1000000 in
theorem packs_nil_stops (n : Nat) (hn : 1 ≤ n) (b n₀ : Nat) (w : World) (hb : w.cell? ⟨b, 0, none⟩ = some (.pointer none)) (hlt : b < w.heap.size) :
    SeqStopsK Fence.wide n Tryz.prog 52 #[ptr b] (fun s : ByteArray => #[Value.string s]) (Below n₀) (fun xs => xs = []) (fun _ => False) 0 w := fun l J Jx W hW hJ hJx hY h0 => by
  refine callsIn_of_wp Tryz.func52 rfl trivial ?_ rfl
  simp only [Tryz.ntmps52, List.size_toArray, List.length_cons, List.length_nil, Nat.reduceAdd, Nat.reduceSub, Array.replicate_succ, Array.replicate_zero, List.push_toArray, List.append_toArray, List.nil_append, List.cons_append]
  have hb' := (hW.cell (p := ⟨b, 0, none⟩) hlt).trans hb
  gi_wp2
  refine bodyPost_ret (results_none rfl _ _ _) rfl ?_
  exact ⟨⟨_, rfl⟩, h0⟩
structure NLk (w : World) (nb D : Nat) (e : Ev) (nv : Value) (W : World) : Prop where
  bel : Below w.heap.size w W
  ev : W.heap[w.heap.size]? = some (.cells (evCells e nv) 36 (0, 0))
  nc : W.heap[nb]? = some (.cells #[.int .i64 0] 3 (0, 0))
  nd : NeedsAt W nv e.needs
  gl : Glob W
  dk : W.heap[D]? = some (.deferred (some []))
theorem NLk.next {w W W' : World} {nb D : Nat} {e : Ev} {nv : Value} (h : NLk w nb D e nv W) (hb : Below W.heap.size W W') : NLk w nb D e nv W' :=
  ⟨bseq h.bel hb, (hb.block _ (Array.getElem?_eq_some_iff.1 h.ev).1).trans h.ev, (hb.block _ (Array.getElem?_eq_some_iff.1 h.nc).1).trans h.nc, h.nd.below hb, h.gl.next hb, (hb.block _ (Array.getElem?_eq_some_iff.1 h.dk).1).trans h.dk⟩
theorem eOk1 : ErrOk 1 eB (-1) := ⟨by decide, by decide, by decide, by decide, by decide⟩
theorem seqNe (f : Nat) (x : Array Value) (w : World) : (binOp .eql 56 (.func (.func f) #[] x) .nilFunc).run Tryz.prog w = .ok (.bool false) w := by kernel_rfl
set_option maxHeartbeats 8000000 in
set_option maxRecDepth 100000 in
theorem foldNil_walk (k : Int) (who nm ver hold note a : ByteArray) (nd : List (ByteArray × ByteArray)) (sm n sz : Int) (nv : Value) (w : World) (hg : Glob w) (hn : NeedsAt w nv nd) (ha : a.size ≤ 9223372036854775807) :
    Calls Tryz.prog 5 #[.agg (evCells ⟨k, who, nm, ver, nd, sm, n, sz, hold, note⟩ nv), .string a] w fun e w' => e = .returned (.bool true) ∧ Below w.heap.size w w' := by
  obtain ⟨A, cp, rfl, _⟩ := id hn
  obtain ⟨w0, hw0⟩ : ∃ w0, w0 = w.alloc (.cells (evCells ⟨k, who, nm, ver, nd, sm, n, sz, hold, note⟩ (.slice A nd.length cp)) 36) := ⟨_, rfl⟩
  have b0 : Below w.heap.size w w0 := by rw [hw0]; exact (Below.refl _ _).alloc (Nat.le_refl _) _
  have e0 : w0.heap[w.heap.size]? = some (.cells (evCells ⟨k, who, nm, ver, nd, sm, n, sz, hold, note⟩ (.slice A nd.length cp)) 36 (0, 0)) := by rw [hw0]; exact heap_alloc_new w _
  have HA0 := Lib.hid (alive_any w0 (hg.next b0))
  have HG := Lib.hid (hg.next b0); have HB0 := Lib.hid b0; have HN := Lib.hid (hn.below b0); have HE0 := Lib.hid e0
  have HW0 := Lib.hid hw0
  rw [HW0.out] at HA0
  have qf := seqNe 52
  clear hg hn b0 e0 hw0
  refine (callsIn_wide (n := 3)).1 ?_
  refine callsIn_of_wp_marks Tryz.func5 rfl trivial ?_ rfl
  simp only [Tryz.ntmps5, List.size_toArray, List.length_cons, List.length_nil, Nat.reduceAdd, Nat.reduceSub, Array.replicate_succ, Array.replicate_zero, List.push_toArray, List.append_toArray, List.nil_append, List.cons_append]
  unfold evCells at HA0 ⊢
  gi_wp2_with (refine ⟨trivial, ?_⟩; gi_at_call 17; (with_reducible refine (callsIn_wide.2 (HA0.out)).mono ?_))
  first | rintro e w1 rfl hb1 | rintro e w1 ⟨rfl, hb1⟩
  have b1 : Below w0.heap.size w0 w1 := by have e := HW0.out; subst e; exact bfix hb1 (by simp)
  have e1 := (b1.block w.heap.size (Array.getElem?_eq_some_iff.1 HE0.out).1).trans HE0.out
  have HB1 := Lib.hid (bseq HB0.out b1); have HE1 := Lib.hid e1; have HN1 := Lib.hid (HN.out.below b1); have HG1 := Lib.hid (HG.out.next b1)
  clear hb1 b1 e1 HB0 HE0 HN HG HA0 HW0
  gi_wp2_with (refine ⟨trivial, ?_⟩; gi_at_call 20; (with_reducible refine (callsIn_wide.2 (packagesNil _)).mono ?_))
  rintro e w2 ⟨rfl, hc2, hl2, hb2⟩
  have hl2 : w1.heap.size + 1 < w2.heap.size := by simpa using hl2
  have hb2 : Below (w1.alloc (.cells #[.int .i64 0] 3)).heap.size (w1.alloc (.cells #[.int .i64 0] 3)) w2 := bfix hb2 (by simp)
  gi_wp2_with (refine ⟨trivial, ?_⟩; gi_at_call 20; (with_reducible refine (callsIn_wide.2 (packagesNil _)).mono ?_))
  rintro e w3 ⟨rfl, hc3, hl3, hb3⟩
  have b3 : Below w1.heap.size w1 w3 := bseq (bseq ((Below.refl _ _).alloc (Nat.le_refl _) _) hb2) hb3
  have n3 : w3.heap[w1.heap.size]? = some (.cells #[.int .i64 0] 3 (0, 0)) := (hb3.block _ (by have := hb2.size; simp at this; omega)).trans ((hb2.block _ (by simp)).trans (heap_alloc_new w1 _))
  have HN3 := Lib.hid n3; have HB3 := Lib.hid b3
  clear hc2 hl2 hb2 hb3 b3 n3
  gi_wp2
  refine wpIn_rangeFunc_ownF (α := ByteArray) (w0 := w3) rfl (by omega) (gf := 52) (lb := #[ptr w2.heap.size]) rfl trivial (enters_of Tryz.func52 (by kernel_rfl) rfl)
    (packs_nil_stops _ (by omega) w2.heap.size w3.heap.size w3 hc3 hl3) belowK_t (belowK_b (Nat.le_refl _)) (Below.refl _ _) (fun _ => rfl)
    (fun _ W => Below w3.heap.size w3 W) (fun _ _ _ => False) (ownFrom_below (Nat.le_refl _) (Nat.le_refl _)) (fun c => fun s A B row hs _ _ => hs) (Below.refl _ _) ?a1 ?assign ?body ?done ?stop
  case assign =>
    intro l x W K hK
    gi_wp2
    exact hK
  case body =>
    intro l pre x W hI hlt
    exact absurd hlt (by simp)
  case stop =>
    rintro D c pre W _ _ h _
    exact h.elim
  case done =>
    rintro D xs W hD hxs hW hK
    have bW := bseq HB3.out hW
    have eW := (bW.block w.heap.size (Array.getElem?_eq_some_iff.1 HE1.out).1).trans HE1.out
    have nW := (hW.block w1.heap.size (Array.getElem?_eq_some_iff.1 HN3.out).1).trans HN3.out
    have H0 : Hid (NLk w w1.heap.size D ⟨k, who, nm, ver, nd, sm, n, sz, hold, note⟩ (.slice A nd.length cp) W) := Lib.hid ⟨bseq HB1.out bW, eW, nW, HN1.out.below bW, HG1.out.next bW, hK⟩
    have HD : Hid (w.heap.size ≤ D) := Lib.hid (by have := HB1.out.size; have := HB3.out.size; omega)
    clear HB1 HE1 HN1 HG1 HN3 HB3 hW bW eW nW hc3 hl3 hD hxs hK
    gi_wp2_with (refine ⟨trivial, ?_⟩; gi_at_call 21; (with_reducible refine (callsIn_wide.2 (accountNil a _)).mono ?_))
    rintro e x1 ⟨rfl, rfl⟩
    gi_wp2_with (refine ⟨trivial, ?_⟩; gi_at_call 22; (with_reducible refine (callsIn_wide.2 (membersNil a _)).mono ?_))
    rintro e x1 ⟨rfl, rfl⟩
    gi_wp2_with (refine ⟨trivial, ?_⟩; gi_at_call 23; (with_reducible refine (callsIn_wide.2 (holdersNil a _)).mono ?_))
    rintro e x1 ⟨rfl, rfl⟩
    gi_wp2_with (refine ⟨trivial, ?_⟩; gi_at_call 24; (with_reducible refine (callsIn_wide.2 (releaseNil a a _)).mono ?_))
    first | rintro e x1 rfl hb | rintro e x1 ⟨rfl, hb⟩
    have H1 : Hid (NLk w w1.heap.size D ⟨k, who, nm, ver, nd, sm, n, sz, hold, note⟩ (.slice A nd.length cp) (x1.alloc (.cells #[.string eB, .string eB, .int .i64 0, .slice none 0 0, .int .u64 0, .int .u32 0, .int .u32 0, .bool false, .string eB] 64))) := Lib.hid ((H0.out.next hb).next ((Below.refl _ _).alloc (Nat.le_refl _) _))
    clear H0 hb
    unfold relCells zeroRel
    gi_wp2_with (refine ⟨trivial, ?_⟩; gi_at_call 25; (with_reducible refine (callsIn_wide.2 (likeNil a _ ha)).mono ?_))
    first | rintro e x2 rfl hb | rintro e x2 ⟨rfl, hb⟩
    have H2 : Hid (NLk w w1.heap.size D ⟨k, who, nm, ver, nd, sm, n, sz, hold, note⟩ (.slice A nd.length cp) x2) := Lib.hid (H1.out.next hb)
    obtain ⟨e0, e1, e2, e3, e4, e5, e6, e7, e8, e9⟩ := evcells H2.out.ev
    have HAP := Lib.hid (applyNil_any k who nm ver hold note nd sm n sz (.slice A nd.length cp) x2 H2.out.nd)
    unfold evCells at HAP
    clear H1 hb
    gi_wp2_with (refine ⟨trivial, ?_⟩; gi_at_call 10; (with_reducible refine (callsIn_wide.2 (HAP.out)).mono ?_))
    rintro e x3 ⟨v3, rfl, hv3, hb⟩
    have H3 : Hid (NLk w w1.heap.size D ⟨k, who, nm, ver, nd, sm, n, sz, hold, note⟩ (.slice A nd.length cp) x3) := Lib.hid (H2.out.next hb)
    have HI3 := Lib.hid (is_any v3 1 (-1) eB x3 H3.out.gl hv3 eOk1)
    clear H2 hb hv3 HAP e0 e1 e2 e3 e4 e5 e6 e7 e8 e9
    gi_wp2_with (refine ⟨trivial, ?_⟩; gi_at_call 13; (with_reducible refine (callsIn_wide.2 (HI3.out)).mono ?_))
    first | rintro e x4 rfl hb | rintro e x4 ⟨rfl, hb⟩
    have H4 : Hid (NLk w w1.heap.size D ⟨k, who, nm, ver, nd, sm, n, sz, hold, note⟩ (.slice A nd.length cp) x4) := Lib.hid (H3.out.next hb)
    obtain ⟨e0, e1, e2, e3, e4, e5, e6, e7, e8, e9⟩ := evcells H4.out.ev
    have HFI := Lib.hid (fitsNil_any _ x4 ⟨k, who, nm, ver, hold, note, nd, sm, n, sz, (.slice A nd.length cp), rfl, H4.out.nd⟩)
    unfold evCells at HFI
    clear H3 hb HI3
    gi_wp2_with (refine ⟨trivial, ?_⟩; gi_at_call 9; (with_reducible refine (callsIn_wide.2 (HFI.out)).mono ?_))
    rintro e x5 ⟨v5, rfl, hv5, hb⟩
    have H5 : Hid (NLk w w1.heap.size D ⟨k, who, nm, ver, nd, sm, n, sz, hold, note⟩ (.slice A nd.length cp) x5) := Lib.hid (H4.out.next hb)
    have HI5 := Lib.hid (is_any v5 1 (-1) eB x5 H5.out.gl hv5 eOk1)
    clear H4 hb hv5 HFI e0 e1 e2 e3 e4 e5 e6 e7 e8 e9
    gi_wp2_with (refine ⟨trivial, ?_⟩; gi_at_call 13; (with_reducible refine (callsIn_wide.2 (HI5.out)).mono ?_))
    first | rintro e x6 rfl hb | rintro e x6 ⟨rfl, hb⟩
    have H6 : Hid (NLk w w1.heap.size D ⟨k, who, nm, ver, nd, sm, n, sz, hold, note⟩ (.slice A nd.length cp) x6) := Lib.hid (H5.out.next hb)
    clear H5 hb HI5
    gi_wp2_with (refine ⟨trivial, ?_⟩; gi_at_call 15; (with_reducible refine (callsIn_wide.2 (headNil _)).mono ?_))
    rintro e x7 ⟨rfl, rfl⟩
    gi_wp2_with (refine ⟨trivial, ?_⟩; gi_at_call 26; (with_reducible refine (callsIn_wide.2 (copyNil _)).mono ?_))
    rintro e x8 ⟨rfl, rfl⟩
    gi_wp2_with (refine ⟨trivial, ?_⟩; gi_at_call 27; (with_reducible refine (callsIn_wide.2 (accountsNil _)).mono ?_))
    rintro e x9 ⟨rfl, rfl⟩
    gi_wp2_with (refine ⟨trivial, ?_⟩; gi_at_call 28; (with_reducible refine (callsIn_wide.2 (teamsNil _)).mono ?_))
    rintro e x10 ⟨rfl, rfl⟩
    have n0 := cells_of_block H6.out.nc 0
    gi_wp2_with (refine ⟨trivial, ?_⟩; gi_at_call 29; (with_reducible refine (callsIn_wide.2 (touchedNil a _)).mono ?_))
    rintro e x11 ⟨rfl, rfl⟩
    gi_wp2_with (refine ⟨trivial, ?_⟩; gi_at_call 30; (with_reducible refine (callsIn_wide.2 (releasesNil a _)).mono ?_))
    rintro e x12 ⟨rfl, rfl⟩
    gi_wp2_with (refine ⟨trivial, ?_⟩; gi_at_call 31; (with_reducible refine (callsIn_wide.2 (sameNil _)).mono ?_))
    first | rintro e x13 rfl hb | rintro e x13 ⟨rfl, hb⟩
    have H7 := Lib.hid (H6.out.next hb)
    have HAL := Lib.hid (alive_any x13 H7.out.gl)
    clear H6 hb n0
    gi_wp2_with (refine ⟨trivial, ?_⟩; gi_at_call 17; (with_reducible refine (callsIn_wide.2 (HAL.out)).mono ?_))
    first | rintro e x14 rfl hb | rintro e x14 ⟨rfl, hb⟩
    have H8 := Lib.hid (H7.out.next hb)
    clear H7 hb HAL
    gi_wp2
    refine ⟨by simp, .inl ⟨_, _, rfl, run_takeDeferred H8.out.dk, ?_⟩⟩
    exact ⟨_, results_tmp rfl _ _ _, rfl, H8.out.bel.trans (belowK_b (w := w) (Nat.le_refl _) x14 D _ _ HD.out H8.out.dk rfl rfl)⟩
end Go.Proofs.YtggdgjifhikmiaaGreatDoor
