/- What the row's list of variables gives the walks; a world that meets it. No condition of its own. -/
import Derived.Test.YtggdgjifhikmiaaGreatDoorCards
import Derived.Test.YtggdgjifhikmiaaGreatDoorTie
import Derived.Test.YtggdgjifhikmiaaGreatDoorConOpen
import Derived.ProofKit
import Derived.OpenShut
import Derived.Deep.DeepHandedRow
import Derived.Lib.LaidTab
import Derived.Lay
import Derived.SevenTiedAt
import Derived.Stop.Joined
set_option linter.unusedVariables false
namespace Go.Proofs.YtggdgjifhikmiaaGreatDoor
open Go.ChangeShapes Go.WideShapes Go.ChangeAt Go.RowKit
abbrev lay8 : List (String × DataW Unit) := Rows.foldNilRow.laid
abbrev lay7 : List (String × DataW Unit) := lay8.filter fun x => x.2.handleName?.isNone
theorem gRtype : (Tryz.prog.cutTypes.find? (·.1 == "internal/reflectlite.rtype")).map (·.2) = some 186 := by kernel_rfl
theorem gErrT : Tryz.prog.globalNamed "errors.errorType" = some 0 := by kernel_rfl
theorem gTypes : Tryz.prog.types.size = 507 - 100 := by kernel_rfl
theorem gOneRow : ((List.range (507 - 100)).filter fun t => Tryz.prog.rowNamed t [101, 114, 114, 111, 114]) = [40] := by kernel_rfl
theorem laid_halves {W : World} (h : laidMetH Tryz.prog lay8 W) : laidMet Tryz.prog lay7 W ∧ handlesMet Tryz.prog [("errors.errorType", Rows.laid_errors_errorType)] W := h
theorem errT_of {W : World} (h : laidMetH Tryz.prog lay8 W) : W.cell? ⟨0, 0, none⟩ = some (.iface 186 (.agg #[typeHandle Tryz.prog 40])) := by
  obtain ⟨name, u, ty, e1, e2, e3, e4, e5⟩ := (laid_halves h).2 _ (List.mem_singleton.2 rfl)
  have en : name = [101, 114, 114, 111, 114] := (Option.some.inj e1).symm
  subst en
  obtain rfl := Option.some.inj (gRtype.symm.trans e2)
  have hm : ty ∈ (List.range (507 - 100)).filter fun t => Tryz.prog.rowNamed t [101, 114, 114, 111, 114] := List.mem_filter.2 ⟨List.mem_range.2 (by rw [← gTypes]; exact e3), e4⟩
  rw [gOneRow] at hm
  obtain rfl := List.mem_singleton.1 hm
  simpa using World.var?_cell gErrT e5 0
theorem gPowT : (Tryz.prog.globals[6]?).map (·.type) = some 369 := by kernel_rfl
theorem cPowT : Tryz.prog.cellsOf 369 = 20 := by kernel_rfl
theorem cU64 : Tryz.prog.cellsOf 33 = 1 := by kernel_rfl
theorem pow_of {W : World} (h : laidMetH Tryz.prog lay8 W) : Lib.TabIs Tryz.prog W "internal/strconv.uint64pow10" .u64 Lib.pow10Tab := by
  obtain ⟨ps, ⟨g0, t0, cs0, f0, p0, q0, _, _, _, _, ⟨g1, t1, cs1, f1, p1, q1, _, _, _, _, ⟨g2, t2, cs2, f2, p2, q2, hg, ht, hv, hd, _, _⟩, _⟩, _⟩, _, _⟩ := (laid_halves h).1
  obtain rfl := Option.some.inj (gPow.symm.trans hg)
  obtain rfl := Option.some.inj (gPowT.symm.trans ht)
  unfold Lib.TabIs
  rw [hv, ← Lib.cells_of_tab (zs := Lib.pow10Tab) Tryz.underlying369 Tryz.underlying33 cU64 cPowT hd]
theorem glob_of {W : World} (h : laidMetH Tryz.prog lay8 W) (hs : W.ShapedOpen Tryz.prog) : Glob W where
  size := by
    obtain ⟨o, _, ho, _⟩ := hs.2 14 (of_decide_eq_true (by kernel_rfl)) (of_decide_eq_true (by kernel_rfl))
    exact Nat.le_of_lt (Array.getElem?_eq_some_iff.1 ho).1
  max := Tryz.laysM219.s1_3 W hs
  tab := pow_of h
  errT := ⟨_, errT_of h, rfl⟩
/-- a world that meets the list: the handle set, all else laid -/
noncomputable def world0 (os : Os) : World :=
  { World.holding Tryz.prog os ⟨#[], #[], []⟩ with heap := (World.holding Tryz.prog os ⟨#[], #[], []⟩).heap.modify 0 fun
      | .cells _ t frozen => .cells #[.iface 186 (.agg #[.pointer (some ⟨14, 40, none⟩)])] t frozen
      | o => o }
noncomputable def laidWorld (os : Os) : World := (world0 os).layVars Tryz.prog lay7
theorem laidWorld_os (os : Os) : (laidWorld os).os = os := World.layVars_os _ _ _
theorem laidWorld_met (os : Os) (args : Array Value) : laidMetH Tryz.prog lay8 ((laidWorld os).forCall (fun _ _ => 0) ⟨#[], args, []⟩).memory := by
  refine laidMetH_of_parts ?_ (by kernel_rfl)
  have e1 : (lay7.filter fun x => (lay7.map (·.1)).contains x.1) = lay7 := List.filter_eq_self.2 fun x hx => List.contains_iff_mem.2 (List.mem_map.2 ⟨x, hx, rfl⟩)
  have e2 : (lay7.filter fun x => !(lay7.map (·.1)).contains x.1) = [] := List.filter_eq_nil_iff.2 fun x hx => by rw [List.contains_iff_mem.2 (List.mem_map.2 ⟨x, hx, rfl⟩)]; simp
  have h : laidMet Tryz.prog lay7 (laidWorld os) := laidMet_layVars (w0 := world0 os) (lay7.map (·.1)) [] (by rw [e1]; rfl) (by rw [e1]; kernel_rfl) (by rw [e1]; kernel_rfl) (by rw [e2]; exact LaidIn.none)
  exact h.of_heap (by simp [World.memory, World.forCall, Input.heap])
end Go.Proofs.YtggdgjifhikmiaaGreatDoor
