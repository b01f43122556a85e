/- Contracts of event.About and of event.needs at no needs. -/
import Derived.Test.YtggdgjifhikmiaaGreatDoorConEv4
import Derived.Test.YtggdgjifhikmiaaGreatDoorShelf
set_option linter.unusedVariables false
namespace Go.Proofs.YtggdgjifhikmiaaGreatDoor
open Go.RowKit Yk
/-- does a kind name a package? -/
def aboutP (k : Int) : Bool := decide (k = 2 ∨ k = 3 ∨ k = 4 ∨ k = 5 ∨ k = 6 ∨ k = 7)
def aboutE (k : Int) (nm : ByteArray) : Ending := .returned (.tuple #[.string (if aboutP k then nm else eB), .bool (aboutP k)])
set_option maxHeartbeats 1000000 in
theorem about_any (k : Int) (who nm ver hold note : ByteArray) (nd : List (ByteArray × ByteArray)) (sm n sz : Int) (nv : Value) (w : World) (h0 : 0 ≤ k) (h1 : k ≤ 255) :
    Calls Tryz.prog 45 #[.agg (evCells ⟨k, who, nm, ver, nd, sm, n, sz, hold, note⟩ nv)] w fun e w' => e = aboutE k nm ∧ Below w.heap.size w w' := by
  unfold evCells
  obtain ⟨q, hq⟩ : ∃ q, aboutP k = q := ⟨_, rfl⟩
  have hb1 : Below w.heap.size w (w.alloc (.cells (evCells ⟨k, who, nm, ver, nd, sm, n, sz, hold, note⟩ nv) 36)) := (Below.refl _ _).alloc (Nat.le_refl _) _
  have HC : Hid (∀ W, Calls Tryz.prog 97 #[.string (mk (fieldsOf k)), .string ⟨#[110]⟩] W fun e w' => e = .returned (.bool q) ∧ w' = W) := Lib.hid (fun W => by
    have hh : decide (0 ≤ Lib.indexByte (mk (fieldsOf k)).data.toList 110) = q := by
      rw [← hq]
      have : (mk (fieldsOf k)).data.toList = fieldsOf k := by simp [mk]
      rw [this]
      unfold aboutP fieldsOf
      repeat' split
      all_goals first | (subst_vars; rfl) | skip
      all_goals first | (rename_i h; rcases h with h | h <;> (subst h; rfl)) | skip
      rw [eq_comm, decide_eq_false (by omega)]; rfl
    have := Tryz.strings_Contains_one (mk (fieldsOf k)) 110 W
    rwa [hh] at this)
  have HE : Hid (aboutE k nm = .returned (.tuple #[.string (if q then nm else eB), .bool q])) := Lib.hid (by unfold aboutE; rw [hq])
  obtain ⟨fl, hfl⟩ : ∃ fl, fieldsOf k = fl := ⟨_, rfl⟩
  rw [hfl] at HC
  have HFL := Lib.hid hfl
  clear hq hfl
  cases q
  · go_enter Tryz.func45, Tryz.ntmps45
    go_wp2_with (first | (go_at_call 87; refine (fields_any _ _ h0 h1).mono ?_; rintro e1 w1 ⟨rfl, rfl⟩; unfold strE; rw [HFL.out]) | (go_at_call 97; refine (HC.out _).mono ?_; rintro e1 w1 ⟨rfl, rfl⟩))
    go_ret2
    exact ⟨HE.out.symm, hb1⟩
  · go_enter Tryz.func45, Tryz.ntmps45
    go_wp2_with (first | (go_at_call 87; refine (fields_any _ _ h0 h1).mono ?_; rintro e1 w1 ⟨rfl, rfl⟩; unfold strE; rw [HFL.out]) | (go_at_call 97; refine (HC.out _).mono ?_; rintro e1 w1 ⟨rfl, rfl⟩))
    go_ret2
    exact ⟨HE.out.symm, hb1⟩
set_option maxHeartbeats 1000000 in
theorem needs_nil (w : World) : Calls Tryz.prog 126 #[.slice none 0 0] w fun e w' => e = .returned (.bool true) ∧ Below w.heap.size w w' := by
  go_enter Tryz.func126, Tryz.ntmps126
  go_wp2
  go_loop [7] (fun i => i = .int .i64 0) (fun i => 0)
  case atStart => rfl
  case round =>
    subst hrel
    go_wp2
    go_ret
    exact ⟨rfl, Below.refl _ _⟩
theorem needsCon_nil : NeedsCon (.slice none 0 0) [] true := fun W _ _ => needs_nil W
end Go.Proofs.YtggdgjifhikmiaaGreatDoor
