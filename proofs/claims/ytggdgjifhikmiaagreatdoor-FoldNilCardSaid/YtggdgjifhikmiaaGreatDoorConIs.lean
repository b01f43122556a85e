/- Contracts of errors.is and errors.Is at a fault and its number. -/
import Derived.Test.YtggdgjifhikmiaaGreatDoorFlt
import Derived.Lib.IfaceEq
import Derived.Stop.Asserts
set_option linter.unusedVariables false
namespace Go.Proofs.YtggdgjifhikmiaaGreatDoor
open Go.RowKit Yk
set_option maxHeartbeats 2000000 in
theorem faultUnwrap_any (g : Nat) (c at_ : Int) (what : ByteArray) (w : World) (h : w.heap[g]? = some (.cells (faultCells c what at_) 108 (0, 0))) :
    Calls Tryz.prog 353 #[ptr g] w fun e w' => e = .returned (.slice (some ⟨w.heap.size, 0, none⟩) 1 1) ∧ w'.cell? ⟨w.heap.size, 0, none⟩ = some (.iface 83 (.int .i64 c)) ∧ w.heap.size < w'.heap.size ∧ Below w.heap.size w w' := by
  have c0 := cells_of_block h 0; have c1 := cells_of_block h 1; have c2 := cells_of_block h 2; have c3 := cells_of_block h 3
  simp only [faultCells] at c0 c1 c2 c3
  clear h
  go_enter Tryz.func353, Tryz.ntmps353
  go_wp2
  go_ret
  exact ⟨rfl, cells_of_block (heap_alloc_new w _) 0, by simp, (Below.refl _ _).alloc (Nat.le_refl _) _⟩
abbrev errnoV (c : Int) : Value := .iface 83 (.int .i64 c)
theorem eqErrno (w : World) (a b : Int) : (binOp .eql 40 (errnoV a) (errnoV b)).run Tryz.prog w = .ok (.bool (a == b)) w := Lib.run_eql_iface_int (q := .i64) w a b Tryz.underlying40 (by kernel_rfl) Tryz.underlying83
set_option maxHeartbeats 2000000 in
set_option maxRecDepth 100000 in
theorem isErrno_same (c : Int) (w : World) : Calls Tryz.prog 105 #[errnoV c, errnoV c, .bool true] w fun e w' => e = .returned (.bool true) ∧ w' = w := by
  have q := eqErrno w c c
  rw [show (c == c) = true from by simp] at q
  go_enter Tryz.func105, Tryz.ntmps105
  go_wp2
  go_loop [0] (fun i => i = errnoV c) (fun _ => 0)
  case atStart => rfl
  case round =>
    subst hrel
    go_wp2
    go_ret
    exact ⟨rfl, rfl⟩
theorem neFault_in (d : Nat) (w : World) (g : Nat) (b : Int) : (Op.equalIn (d + 2) 40 (faultV g) (errnoV b)).run Tryz.prog w = .ok false w := by
  simp [Op.equalIn, run_underlying Tryz.underlying40]
theorem neFault (w : World) (g : Nat) (b : Int) : (binOp .eql 40 (faultV g) (errnoV b)).run Tryz.prog w = .ok (.bool false) w := by
  simp only [binOp]
  simp [Op.equal, Op.maxDepth, neFault_in 9998 w g b]
theorem taIs (g : Nat) (w : World) : (Instr.typeAssert (faultV g) 40 188 true).run Tryz.prog w = .ok (.tuple #[.nilIface, .bool false]) w := run_typeAssert_lacksB Tryz.underlying188 (by kernel_rfl) (by kernel_rfl) _ _ w
theorem taUn (g : Nat) (w : World) : (Instr.typeAssert (faultV g) 40 191 true).run Tryz.prog w = .ok (.tuple #[.nilIface, .bool false]) w := run_typeAssert_lacksB Tryz.underlying191 (by kernel_rfl) (by kernel_rfl) _ _ w
theorem taUns (g : Nat) (w : World) : (Instr.typeAssert (faultV g) 40 193 true).run Tryz.prog w = .ok (.tuple #[faultV g, .bool true]) w := by kernel_rfl
theorem naUn (g : Nat) (w : World) : (nilAhead 507 109 (.pointer (some ⟨g, 0, none⟩)) "Unwrap").run Tryz.prog w = .ok (some false) w := by kernel_rfl
theorem mtUn (g : Nat) (w : World) : (method 507 109 (.pointer (some ⟨g, 0, none⟩)) "Unwrap").run Tryz.prog w = .ok (353, .pointer (some ⟨g, 0, none⟩)) w := by kernel_rfl
set_option maxHeartbeats 2000000 in
set_option maxRecDepth 100000 in
theorem isFault (c : Int) (g : Nat) (what : ByteArray) (at_ : Int) (w : World) (h : w.heap[g]? = some (.cells (faultCells c what at_) 108 (0, 0))) : Calls Tryz.prog 105 #[faultV g, errnoV c, .bool true] w fun e w' => e = .returned (.bool true) ∧ Below w.heap.size w w' := by
  have q := neFault w g c
  have q1 := taIs g; have q2 := taUn g; have q3 := taUns g; have q4 := naUn g; have q5 := mtUn g
  have HU := Lib.hid (faultUnwrap_any g c at_ what w h)
  clear h
  go_enter Tryz.func105, Tryz.ntmps105
  go_wp2
  go_loop [0] (fun i => i = faultV g) (fun _ => 0)
  case atStart => rfl
  case round =>
    subst hrel
    go_wp2_with (go_at_call 353; refine (HU.out).mono ?_)
    rintro e w1 rfl hc hz hb
    go_wp2
    refine wp_loop_rounds 1 ?_
    rw [rounds_succ]
    go_wp2_with (go_at_call 105; refine (isErrno_same c _).mono ?_; rintro e w2 ⟨rfl, rfl⟩)
    go_ret
    exact ⟨rfl, hb⟩
theorem typeOfE (c : Int) (w : World) : (Extern.ReflectliteType.typeOf #[errnoV c]).run Tryz.prog w = .ok (.iface 186 (.agg #[.pointer (some ⟨14, 83, none⟩)])) w := by kernel_rfl
theorem naCo (h : Value) (w : World) : (nilAhead 507 186 (.agg #[h]) "Comparable").run Tryz.prog w = .ok (some false) w := by kernel_rfl
theorem mtCo (h : Value) (w : World) : (method 507 186 (.agg #[h]) "Comparable").run Tryz.prog w = .ok (359, .agg #[h]) w := by kernel_rfl
theorem compE (w : World) : ((Extern.ReflectliteType.method fun t => do Extern.Rtype.noPackHeld "Comparable" t; (fun a => Value.bool a.comparable) <$> typeInfo t) #[.agg #[.pointer (some ⟨14, 83, none⟩)]]).run Tryz.prog w = .ok (.bool true) w := by kernel_rfl
set_option maxHeartbeats 2000000 in
set_option maxRecDepth 100000 in
theorem isErr_any (c : Int) (g : Nat) (what : ByteArray) (at_ : Int) (w : World) (h : w.heap[g]? = some (.cells (faultCells c what at_) 108 (0, 0))) : Calls Tryz.prog 51 #[faultV g, errnoV c] w fun e w' => e = .returned (.bool true) ∧ Below w.heap.size w w' := by
  have HI := Lib.hid (isFault c g what at_ w h)
  clear h
  have h1 := @run_callFunc_extern Tryz.prog 104 _ Extern.ReflectliteType.typeOf Tryz.func104 (by kernel_rfl) (by kernel_rfl) (by kernel_rfl) (by kernel_rfl)
  have h2 := @run_callFunc_extern Tryz.prog 359 _ (Extern.ReflectliteType.method fun t => do Extern.Rtype.noPackHeld "Comparable" t; pure (.bool (← typeInfo t).comparable)) Tryz.func359 (by kernel_rfl) (by kernel_rfl) (by kernel_rfl) (by kernel_rfl)
  have tO := typeOfE c
  have q1 := naCo; have q2 := mtCo; have q3 := compE
  go_enter Tryz.func51, Tryz.ntmps51
  go_wp2_with (go_at_call 105; refine (HI.out).mono ?_; rintro e w1 ⟨rfl, hb⟩)
  go_ret
  exact ⟨rfl, hb⟩
end Go.Proofs.YtggdgjifhikmiaaGreatDoor
