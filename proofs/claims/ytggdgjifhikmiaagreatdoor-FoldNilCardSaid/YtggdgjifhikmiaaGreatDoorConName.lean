/- Contracts of package name: what, Holder, form, Norm, Squash, Is: each returns what plain Lean says, and leaves the memory that was there alone. Conditions: none but a string's own bound. -/
import Derived.Test.YtggdgjifhikmiaaGreatDoorBase
set_option linter.unusedVariables false
namespace Go.Proofs.YtggdgjifhikmiaaGreatDoor
open Go.RowKit Yk

def whatK (c : Int) : Int := if 65 ≤ c ∧ c ≤ 90 ∨ 97 ≤ c ∧ c ≤ 122 ∨ 48 ≤ c ∧ c ≤ 57 then 1 else if c = 45 ∨ c = 95 ∨ c = 46 then 2 else 0
def whatR (c : Int) : Int := if 65 ≤ c ∧ c ≤ 90 then c + 32 else c
set_option maxHeartbeats 400000 in
theorem what_any (c : Int) (w : World) (h0 : 0 ≤ c) (h1 : c ≤ 2147483647) :
    Calls Tryz.prog 135 #[.int .i32 c] w fun e w' => e = .returned (.tuple #[.int .i64 (whatK c), .int .i32 (whatR c)]) ∧ w = w' := by
  go_enter Tryz.func135, Tryz.ntmps135
  go_wp2
  all_goals
    go_ret2
    refine ⟨ret_two ?_ ?_, rfl⟩
    · unfold whatK; first | rfl | (rw [if_pos (by omega)]) | (simp only [beq_iff_eq, beq_eq_false_iff_ne, ne_eq] at *; first | (rw [if_neg (by omega), if_pos (by omega)]) | (rw [if_neg (by omega), if_neg (by omega)]))
    · unfold whatR; first | rfl | (rw [if_pos (by omega)]) | (rw [if_neg (by omega)])

theorem u8_le {a b : UInt8} : (a ≤ b) = (a.toNat ≤ b.toNat) := by rw [UInt8.le_iff_toNat_le]
theorem isLet_iff (c : UInt8) : isLet c = true ↔ (65 ≤ c.toNat ∧ c.toNat ≤ 90 ∨ 97 ≤ c.toNat ∧ c.toNat ≤ 122 ∨ 48 ≤ c.toNat ∧ c.toNat ≤ 57) := by
  simp only [isLet, isLow, isUp, isDig, Bool.or_eq_true, Bool.and_eq_true, decide_eq_true_eq, UInt8.le_iff_toNat_le, UInt8.reduceToNat]; omega
theorem isSgn_iff (c : UInt8) : isSgn c = true ↔ (c.toNat = 45 ∨ c.toNat = 95 ∨ c.toNat = 46) := by
  simp only [isSgn, Bool.or_eq_true, beq_iff_eq, ← UInt8.toNat_inj, UInt8.reduceToNat]; omega
theorem holdC_iff (c : UInt8) : (isLow c || isDig c) = true ↔ (97 ≤ c.toNat ∧ c.toNat ≤ 122 ∨ 48 ≤ c.toNat ∧ c.toNat ≤ 57) := by
  simp only [isLow, isDig, Bool.or_eq_true, Bool.and_eq_true, decide_eq_true_eq, UInt8.le_iff_toNat_le, UInt8.reduceToNat]
theorem whatK_let (c : UInt8) : (whatK (c.toNat : Int) = 1) ↔ isLet c = true := by
  rw [isLet_iff]; unfold whatK; split
  · omega
  · split <;> omega
theorem whatK_hold (c : Int) (h : 0 ≤ c) : (whatK c = 1 ∧ c = whatR c) ↔ (97 ≤ c ∧ c ≤ 122 ∨ 48 ≤ c ∧ c ≤ 57) := by
  unfold whatK whatR; split <;> split <;> (try split) <;> omega

theorem head_low (s : ByteArray) (h : 0 < s.size) : s.data.toList.head?.any isLow = (decide (97 ≤ (s[0]'h).toNat) && decide ((s[0]'h).toNat ≤ 122)) := by
  have hh : s.data.toList.head? = some (s[0]'h) := by
    rw [List.head?_eq_getElem?, List.getElem?_eq_getElem (by simpa using h)]; rfl
  rw [hh, Option.any_some, Bool.eq_iff_iff]
  simp only [isLow, Bool.and_eq_true, decide_eq_true_eq, UInt8.le_iff_toNat_le, UInt8.reduceToNat]
theorem holder_no1 (s : ByteArray) (h : s.size < 1 ∨ 64 < s.size) : holderL s.data.toList = false := by
  unfold holderL
  have : (decide (1 ≤ s.data.toList.length) && decide (s.data.toList.length ≤ 64)) = false := by
    rw [Bool.and_eq_false_iff]; simp only [decide_eq_false_iff_not, Array.length_toList, ByteArray.size_data]; omega
  rw [this]; rfl
theorem holder_no2 (s : ByteArray) (h0 : 0 < s.size) (h : (s[0]'h0).toNat < 97 ∨ 122 < (s[0]'h0).toNat) : holderL s.data.toList = false := by
  unfold holderL
  have : (decide (97 ≤ (s[0]'h0).toNat) && decide ((s[0]'h0).toNat ≤ 122)) = false := by
    rw [Bool.and_eq_false_iff]; simp only [decide_eq_false_iff_not]; omega
  rw [head_low s h0, this, Bool.and_false, Bool.false_and]
theorem holder_end (s : ByteArray) (h0 : 0 < s.size) (h1 : s.size ≤ 64) (h2 : 97 ≤ (s[0]'h0).toNat) (h3 : (s[0]'h0).toNat ≤ 122) : holderL s.data.toList = s.data.toList.all (fun c => isLow c || isDig c) := by
  unfold holderL
  have e1 : (decide (1 ≤ s.data.toList.length) && decide (s.data.toList.length ≤ 64)) = true := by simp; omega
  rw [e1, head_low s h0]; simp [h2, h3]
def holdRel (s : ByteArray) (w wr : World) : Prop :=
  ∃ pos : Nat, wr.heap[w.heap.size]? = some (.stringIter s pos) ∧ Below w.heap.size w wr ∧ pos ≤ s.size ∧ (s.data.toList.take pos).all (fun c => isLow c || isDig c) = true

set_option maxHeartbeats 1000000 in
theorem holder_any (s : ByteArray) (w : World) (hs : s.size ≤ 9223372036854775807) :
    Calls Tryz.prog 123 #[.string s] w fun e w' => e = .returned (.int .i64 (okOr (holderL s.data.toList) 61)) ∧ Below w.heap.size w w' := by
  by_cases h1 : 0 < s.size
  · go_enter Tryz.func123, Tryz.ntmps123
    go_wp2
    case _ => go_ret; exact ⟨ret_int (by rw [holder_no2 s h1 (by omega)]; rfl), Below.refl _ _⟩
    case _ =>
      go_loopw [] (fun wr => holdRel s w wr) (fun wr => s.size - wr.iterPos w.heap.size)
      case atStart => exact ⟨0, World.iter_heap w s 0, (Below.refl _ _).alloc (Nat.le_refl _) _, by omega, by simp⟩
      case round =>
        obtain ⟨pos, hit, hb, hps, hall⟩ := hrel
        have HA := Lib.hid hall; clear hall
        by_cases hp : pos < s.size
        · have hnx : ∀ ty, (Instr.next (.pointer (some ⟨w.heap.size, 0, none⟩)) true ty).run Tryz.prog wr = _ := fun ty => Lib.run_next_any_at wr w.heap.size s pos ty hit hp
          have hd1 := decode_le s pos
          have hit2 := Lib.iterAt_heap wr w.heap.size s pos (pos + (Utf8.decode s pos).2) hit
          have hb2 := Lib.below_iterAt hb (k := w.heap.size) (Nat.le_refl _) s (pos + (Utf8.decode s pos).2)
          by_cases hasc : (s[pos]'hp).toNat < 128
          · rw [decode_ascii s pos hp hasc] at hnx hit2 hb2
            clear hd1
            by_cases hg : (isLow (s[pos]'hp) || isDig (s[pos]'hp)) = true
            · have hsn := Lib.hid (all_take_snoc (fun c => isLow c || isDig c) s pos hp)
              have hkk := (whatK_hold ((s[pos]'hp).toNat : Int) (by omega)).2 (by have := (holdC_iff _).1 hg; omega)
              have hk1 : (whatK ((s[pos]'hp).toNat : Int) != 1) = false := by rw [hkk.1]; rfl
              have hk2 : (((s[pos]'hp).toNat : Int) != whatR ((s[pos]'hp).toNat : Int)) = false := by rw [← hkk.2]; simp
              have HG := Lib.hid hg
              clear hkk hg
              go_wp2_with (go_at_call 135; refine (what_any _ _ (by omega) (by omega)).mono ?_; rintro e w' ⟨rfl, rfl⟩)
              go_roundw
              case rel => exact ⟨pos + 1, hit2, hb2, by omega, by rw [hsn.out, HA.out, HG.out]; rfl⟩
              case measure => simp only [World.iterPos, hit2, hit]; omega
            · have hno := Lib.hid (all_of_take (fun c => isLow c || isDig c) s pos hp (by simpa using hg))
              have hbad : ¬ (whatK ((s[pos]'hp).toNat : Int) = 1 ∧ ((s[pos]'hp).toNat : Int) = whatR ((s[pos]'hp).toNat : Int)) := by
                rw [whatK_hold _ (by omega)]; rw [holdC_iff] at hg; omega
              have hfin : okOr (holderL s.data.toList) 61 = 61 := by rw [holder_end s h1 (by omega) (by omega) (by omega), hno.out]; rfl
              have HF := Lib.hid hfin
              clear hg hfin
              by_cases hk : whatK ((s[pos]'hp).toNat : Int) = 1
              · have hk1 : (whatK ((s[pos]'hp).toNat : Int) != 1) = false := by rw [hk]; rfl
                have hk2 : (((s[pos]'hp).toNat : Int) != whatR ((s[pos]'hp).toNat : Int)) = true := by rw [bne_iff_ne]; exact fun h => hbad ⟨hk, h⟩
                clear hbad hk
                go_wp2_with (go_at_call 135; refine (what_any _ _ (by omega) (by omega)).mono ?_; rintro e w' ⟨rfl, rfl⟩)
                go_ret
                exact ⟨ret_int HF.out.symm, hb2⟩
              · have hk1 : (whatK ((s[pos]'hp).toNat : Int) != 1) = true := by rw [bne_iff_ne]; exact hk
                clear hbad hk
                go_wp2_with (go_at_call 135; refine (what_any _ _ (by omega) (by omega)).mono ?_; rintro e w' ⟨rfl, rfl⟩)
                go_ret
                exact ⟨ret_int HF.out.symm, hb2⟩
          · have hhi := decode_high s pos hp (by omega)
            have hno := Lib.hid (all_of_take (fun c => isLow c || isDig c) s pos hp (by
              have := holdC_iff (s[pos]'hp)
              cases hc : (isLow (s[pos]'hp) || isDig (s[pos]'hp)) with
              | false => rfl
              | true => rw [hc] at this; have := this.1 rfl; omega))
            have hfin : okOr (holderL s.data.toList) 61 = 61 := by rw [holder_end s h1 (by omega) (by omega) (by omega), hno.out]; rfl
            have HF := Lib.hid hfin
            have hk1 : (whatK ((Utf8.decode s pos).1 : Int) != 1) = true := by
              rw [bne_iff_ne]; unfold whatK; rw [if_neg (by omega), if_neg (by omega)]; decide
            clear hfin hhi hasc
            go_wp2_with (go_at_call 135; refine (what_any _ _ (by omega) (by omega)).mono ?_; rintro e w' ⟨rfl, rfl⟩)
            go_ret
            exact ⟨ret_int HF.out.symm, hb2⟩
        · have hnx : ∀ ty, (Instr.next (.pointer (some ⟨w.heap.size, 0, none⟩)) true ty).run Tryz.prog wr = _ := fun ty => Lib.run_next_end_at wr w.heap.size s pos ty hit hp
          have hfin : okOr (holderL s.data.toList) 61 = 0 := by
            rw [holder_end s h1 (by omega) (by omega) (by omega)]
            have := HA.out
            rw [List.take_of_length_le (by simp; omega)] at this
            rw [this]; rfl
          have HF := Lib.hid hfin
          clear hfin
          go_wp2
          go_ret
          exact ⟨ret_int HF.out.symm, hb⟩
    all_goals go_ret
    all_goals first | exact ⟨ret_int (by rw [holder_no2 s h1 (by omega)]; rfl), Below.refl _ _⟩ | exact ⟨ret_int (by rw [holder_no1 s (by omega)]; rfl), Below.refl _ _⟩
  · go_enter Tryz.func123, Tryz.ntmps123
    go_wp2
    go_ret
    exact ⟨ret_int (by rw [holder_no1 s (by omega)]; rfl), Below.refl _ _⟩
end Go.Proofs.YtggdgjifhikmiaaGreatDoor
