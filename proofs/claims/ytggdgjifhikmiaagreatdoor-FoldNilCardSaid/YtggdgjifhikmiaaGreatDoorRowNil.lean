/- PROVED: 'yanklinelaw10.FoldNil': for every event and every text the law returns true; its arguments read as they did. The tied card. Conditions: the row's own (the listed variables as the program's text lays them). -/
import Derived.Test.YtggdgjifhikmiaaGreatDoorConGlob
import Derived.Test.YtggdgjifhikmiaaGreatDoorConNilLaw
import Derived.Test.YtggdgjifhikmiaaGreatDoorNilFacts
import Derived.ChangeMaps5
import Derived.WideKeyArgs
set_option linter.unusedVariables false
namespace Go.Proofs.YtggdgjifhikmiaaGreatDoor
open Go.ChangeShapes Go.WideShapes Go.ChangeAt Go.ChangeMaps Go.RowKit
theorem own0 : ownKnob Tryz.prog.godebug = none := by kernel_rfl
theorem laidOut0 : laidOutB Tryz.prog = true := by kernel_rfl
theorem laidShaped (os : Os) (args : Array Value) : ((laidWorld os).forCall (fun _ _ => 0) ⟨#[], args, []⟩).Shaped Tryz.prog := World.shaped_of_ZipB (by kernel_rfl) (by kernel_rfl)
abbrev nilArgs : Array Value := #[.agg #[.int .u8 0, .string ⟨#[]⟩, .string ⟨#[]⟩, .string ⟨#[]⟩, .slice none 0 0, .int .u64 0, .int .u32 0, .int .u32 0, .string ⟨#[]⟩, .string ⟨#[]⟩], .string ⟨#[]⟩]
set_option maxRecDepth 100000 in
theorem nil_contract (H : Type) (enc : TypeId × Value → H) (W : World) (base : Nat) (args : Array Value) (ds gs : List (DataW H)) (before : List MemPlace)
    (hval : ∀ (j : Nat) t v, Tryz.f5.params[j]? = some t → args[j]? = some v → Value.okWide Tryz.prog W .any base t v)
    (hW : DataW.Whole enc Tryz.prog Tryz.f5.params.toList Rows.foldNilSpec.vars false W args.toList ds gs before)
    (hz : (DataW.weightsEach Tryz.prog (Tryz.f5.params.toList ++ []) (ds ++ gs)).all (· ≤ reachBytes) = true)
    (hL : laidMetH Tryz.prog lay8 W) (hS : W.ShapedOpen Tryz.prog) :
    Calls Tryz.prog 5 args W fun e W' => ∃ v, e = .returned v ∧ Rows.foldNilSpec.post enc Tryz.prog Tryz.f5 false true false false W args v W' := by
  have hW' := hW
  obtain ⟨p, q, hA0, hV, rfl, hfz, hnd⟩ := hW
  have hA : DataW.TrodAll enc Tryz.prog W 0 (fun _ => true) true Tryz.f5.params.toList args.toList ds p := hA0
  rw [Tryz.params5] at hA hval hz
  obtain ⟨v0, vs0, d0, ds0, p0, q0, hargs, rfl, rfl, h0, r0⟩ := trodAll_cons hA
  obtain ⟨v1, vs1, d1, ds1, p1, q1, hargs1, rfl, rfl, h1, r1⟩ := trodAll_cons r0
  obtain ⟨rfl, rfl, rfl⟩ := trodAll_nil r1
  subst hargs1
  obtain rfl : args = #[v0, v1] := by cases args; simp_all
  obtain ⟨rfl, rfl⟩ := trodVars_none hV
  have hz' : ∀ n ∈ d0.weights Tryz.prog 36, n ≤ reachBytes := fun n hn => by
    have := List.all_eq_true.1 hz n (by
      simp only [List.append_nil]
      rw [each_cons]
      exact List.mem_append_left _ hn)
    simpa using this
  obtain ⟨cs, rfl, hsz⟩ := okWide_struct Tryz.underlying36 (hval 0 36 v0 rfl rfl)
  obtain ⟨fuel, hf⟩ := h0
  obtain ⟨e, nv, hcs, hn, hE⟩ := ev_open (x := (d0, p0)) hf hz'
  obtain ⟨a, rfl, rfl, rfl, ha⟩ := open_string Tryz.underlying9 (hval 1 9 v1 rfl rfl) h1
  obtain ⟨l⟩ := cs
  have hl : l = (evCells e nv).toList := by simpa [Value.cells] using hcs
  subst hl
  have hcall : Calls Tryz.prog 5 #[.agg (evCells e nv), .string a] W fun e w' => e = .returned (.bool true) ∧ Below W.heap.size W w' := by
    obtain ⟨k, who, nm, ver, nd, sm, n, sz, hold, note⟩ := e
    exact foldNil_walk k who nm ver hold note a nd sm n sz nv W (glob_of hL hS) hn (by unfold maxLen at ha; omega)
  refine hcall.mono fun en W' ⟨he, hb⟩ => ?_
  subst he
  have hlt : ∀ x ∈ p0, x.block < W.heap.size := fun x hx => hW'.lt x (by simp; exact hx)
  simp only [List.append_nil] at hW'
  refine ⟨_, rfl, post_of_below (pa := p0) (pv := []) hW' (fun _ _ _ => trodAll_cons_mk (shut_bool Tryz.underlying4 _) trodAll_mk0) (fun sp hsp => ?_) (fun _ _ => rfl) (by simp) hb (ok_one (by kernel_rfl) rfl (okWide_bool_mk Tryz.underlying4 _))⟩
  have q := trodAll_cons_mk (WideElems.Trod_stays laidOut0 (by kernel_rfl) (of_decide_eq_true (by kernel_rfl)) ⟨fuel, hf⟩ (fun x hx => hb.same (hlt x hx)) (fun x hx => hsp x (by first | exact hx | (simp; exact hx)))) (trodAll_cons_mk (shut_string Tryz.underlying9 ha) trodAll_mk0)
  simp only [List.append_nil] at q
  exact q
set_option maxRecDepth 100000 in
theorem nil_lifted (os : Os) (started : os.Started) (H : Type) (enc : TypeId × Value → H) (F : Stop.Interp) :
    ReturnsInHanded {} Tryz.checked os 5 .any ((OpenSpec.ofChange Rows.foldNilSpec).preRow enc Tryz.prog Tryz.f5 Rows.foldNilRow.domain false Rows.foldNilRow.laid) (((OpenSpec.ofChange Rows.foldNilSpec).at F).post enc Tryz.prog Tryz.f5 false true false false) := by
  refine returnsInHanded_of_row (C := Tryz.checked) (s := OpenSpec.ofChange Rows.foldNilSpec) own0 started (by kernel_rfl) Tryz.func5
    ⟨laidWorld os, fun _ _ => 0, ⟨#[], nilArgs, []⟩, laidWorld_os os, laidShaped os nilArgs, rfl, ?_, ?_, ?_⟩ ?_
  · exact (Input.okWide_of_okWideB (by kernel_rfl)).2
  · exact OpenSpec.preRow_of_cond 8 (x := ([.agg [.lit (.int .u8 0), .lit (.string []), .lit (.string []), .lit (.string []), .nil, .lit (.int .u64 0), .lit (.int .u32 0), .lit (.int .u32 0), .lit (.string []), .lit (.string [])], .lit (.string [])], [], [])) (by kernel_rfl) (by kernel_rfl) (fun k hk => by cases hk) (by kernel_rfl) (laidWorld_met os _)
  · simp only [Assume.holds]
    exact ⟨by simp, by simp, fun _ => Modest.zero, by simp, by simp⟩
  · intro W base args ds gs before hval hW _ _ hz hL hS _
    exact nil_contract H enc W base args ds gs before hval hW hz hL hS
set_option maxRecDepth 100000 in
theorem nil_said : Rows.FoldNilSaid :=
  OpenClaim.holds_of_cond 5 Tryz.f5 rfl rfl rfl rfl rfl rfl rfl ⟨rfl, rfl, rfl, rfl, rfl⟩ rfl rfl rfl rfl rfl (by kernel_rfl) Tryz.func5 nilFacts
    (of_decide_eq_true (by kernel_rfl)) (by unfold Func.isWrapper; first | (rw [if_pos (by decide +kernel)]; kernel_rfl) | (rw [if_neg (by decide +kernel)]; exact ⟨rfl, rfl⟩))
    (fun os started H enc _ F => by rw [OpenClaim.pre_eq_preRow]; exact nil_lifted os started H enc F)
theorem nil_plain (f : FuncId) (fn : Func) (hf : Tryz.pinned.checked.prog.funcNamed "yankline/yanklinelaw10.FoldNil" = some f) (hfn : Tryz.pinned.checked.prog.funcs[f]? = some fn) :
    true = Tryz.pinned.checked.prog.looks [] ∧ ∀ (j : Nat) t, fn.params[j]? = some t → Tryz.pinned.checked.prog.wantsStandIn t = false := by
  obtain rfl : f = 5 := Option.some.inj ((show Tryz.prog.funcNamed "yankline/yanklinelaw10.FoldNil" = some 5 by kernel_rfl).symm.trans hf) |>.symm
  obtain rfl : fn = Tryz.f5 := (Option.some.inj (Tryz.func5.symm.trans hfn)).symm
  refine ⟨by kernel_rfl, fun j t ht => ?_⟩
  rw [Tryz.params5] at ht
  have hm : t ∈ [36, 9] := by simpa using Array.mem_of_getElem? ht
  have hall : ([36, 9].all fun u => !Tryz.prog.wantsStandIn u) = true := by kernel_rfl
  exact (show Tryz.prog.wantsStandIn t = false by simpa using List.all_eq_true.1 hall t hm)
/-- the tied card -/
theorem foldNil_holds : Rows.FoldNilCardSaid :=
  Claim7.holds_tied_plain_at .later [] _ _ _ _ nil_said (fun _ h => by cases h) (by kernel_rfl) (fun _ h => by cases h) foldNil_row_tie rfl ⟨rfl, rfl⟩ (by kernel_rfl) rfl nil_plain (by kernel_rfl)
#print axioms foldNil_holds
end Go.Proofs.YtggdgjifhikmiaaGreatDoor
