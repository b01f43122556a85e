/- Contracts of name.form, Norm, Squash, Is: each returns what plain Lean says of the bytes; what was there stays. Condition: a string's own bound. -/
import Derived.Test.YtggdgjifhikmiaaGreatDoorConName
import Derived.Test.YtggdgjifhikmiaaGreatDoorConBuilder
import Derived.Test.YtggdgjifhikmiaaGreatDoorShelf
set_option linter.unusedVariables false
namespace Go.Proofs.YtggdgjifhikmiaaGreatDoor
open Go.RowKit Yk
theorem small_toNat (c : UInt8) : (small c).toNat = if 65 ≤ c.toNat ∧ c.toNat ≤ 90 then c.toNat + 32 else c.toNat := by
  have h : isUp c = true ↔ (65 ≤ c.toNat ∧ c.toNat ≤ 90) := by
    simp only [isUp, Bool.and_eq_true, decide_eq_true_eq, UInt8.le_iff_toNat_le, UInt8.reduceToNat]
  unfold small
  by_cases hu : isUp c = true
  · have := h.1 hu
    rw [if_pos hu, if_pos this, UInt8.toNat_add]; simp; omega
  · rw [if_neg hu, if_neg (fun g => hu (h.2 g))]
theorem whatR_small (c : UInt8) : whatR (c.toNat : Int) = ((small c).toNat : Int) := by
  rw [small_toNat]; unfold whatR; split <;> split <;> omega
theorem whatK_sgn (c : UInt8) (h : isLet c = false) (g : isSgn c = true) : whatK (c.toNat : Int) = 2 := by
  have h' := isLet_iff c; rw [h] at h'
  have g' := (isSgn_iff c).1 g
  unfold whatK; rw [if_neg (by simp at h'; omega), if_pos (by omega)]
theorem whatK_none (c : UInt8) (h : isLet c = false) (g : isSgn c = false) : whatK (c.toNat : Int) = 0 := by
  have h' := isLet_iff c; rw [h] at h'
  have g' := isSgn_iff c; rw [g] at g'
  unfold whatK; rw [if_neg (by simp at h'; omega), if_neg (by simp at g'; omega)]
theorem runeCell (c : UInt8) : Lib.byteCells [c] = [Value.int .u8 c.toNat] := rfl
def lastV (ls : Bool) : Int := if ls then 2 else 1
def formRel (s by_ : ByteArray) (w : World) (last : Value) (wr : World) : Prop :=
  ∃ (pos : Nat) (acc : Bs) (ls : Bool), last = .int .i64 (lastV ls) ∧ Lib.IsBuilderF 200 5 w.heap.size w.heap.size (Lib.byteCells acc) wr ∧ wr.heap[w.heap.size + 1]? = some (.stringIter s pos) ∧ Below w.heap.size w wr ∧
    formGo by_.data.toList acc ls (s.data.toList.drop pos) = formGo by_.data.toList [] true s.data.toList ∧ pos ≤ s.size ∧ acc.length ≤ 2 * pos
def formRet (by_ s : ByteArray) : Ending := .returned (.tuple #[.string ⟨(formOut by_.data.toList s.data.toList).1.toArray⟩, .bool (formOut by_.data.toList s.data.toList).2])
theorem formRet_bad {by_ s : ByteArray} (h : formOut by_.data.toList s.data.toList = ([], false)) : .returned (.tuple #[.string ⟨#[]⟩, .bool false]) = formRet by_ s := by
  unfold formRet; rw [h]
theorem formOut_short (by_ s : ByteArray) (h : s.size < 1 ∨ 64 < s.size) : formOut by_.data.toList s.data.toList = ([], false) := by
  unfold formOut
  have : (decide (s.data.toList.length < 1) || decide (s.data.toList.length > 64)) = true := by
    rw [Bool.or_eq_true]; simp only [decide_eq_true_eq, Array.length_toList, ByteArray.size_data]; omega
  rw [if_pos this]
theorem formOut_go (by_ s : ByteArray) (h0 : 1 ≤ s.size) (h1 : s.size ≤ 64) : formOut by_.data.toList s.data.toList = (match formGo by_.data.toList [] true s.data.toList with | some (a, ls) => (a, !ls) | none => ([], false)) := by
  unfold formOut
  have : (decide (s.data.toList.length < 1) || decide (s.data.toList.length > 64)) = false := by
    rw [Bool.or_eq_false_iff]; simp only [decide_eq_false_iff_not, Array.length_toList, ByteArray.size_data]; omega
  rw [this]; rfl
theorem drop_at (s : ByteArray) (pos : Nat) (h : pos < s.size) : s.data.toList.drop pos = (s[pos]'h) :: s.data.toList.drop (pos + 1) := List.drop_eq_getElem_cons (by simpa using h)
theorem decide_ascii' (s : ByteArray) (pos : Nat) (hp : pos < s.size) (h : (s[pos]'hp).toNat < 128) : Utf8.decode s pos = ((s[pos]'hp).toNat, 1) := decode_ascii s pos hp h
set_option maxHeartbeats 4000000 in
set_option maxRecDepth 100000 in
theorem form_any (s by_ : ByteArray) (w : World) (hs : s.size ≤ 9223372036854775807) (hby : by_.size ≤ 1) :
    Calls Tryz.prog 109 #[.string s, .string by_] w fun e w' => e = formRet by_ s ∧ Below w.heap.size w w' := by
  by_cases h1 : s.size < 1
  · have H := Lib.hid (formOut_short by_ s (.inl h1))
    go_enter Tryz.func109, Tryz.ntmps109
    go_wp2
    go_ret2
    exact ⟨formRet_bad H.out, Below.refl _ _⟩
  · by_cases h2 : 64 < s.size
    · have H := Lib.hid (formOut_short by_ s (.inr h2))
      go_enter Tryz.func109, Tryz.ntmps109
      go_wp2
      go_ret2
      exact ⟨formRet_bad H.out, Below.refl _ _⟩
    · have H := Lib.hid (formOut_go by_ s (by omega) (by omega))
      go_enter Tryz.func109, Tryz.ntmps109
      go_wp2
      go_loopw [7] (fun last wr => formRel s by_ w last wr) (fun _ wr => s.size - wr.iterPos (w.heap.size + 1))
      case atStart =>
        refine ⟨0, [], true, rfl, (Lib.IsBuilderF.of (Lib.fresh_isBuilder 200 5 w)).alloc _, ?_, ((Below.refl _ w).alloc (Nat.le_refl _) _).alloc (by simp) _, rfl, by omega, by simp⟩
        have := World.iter_heap (w.alloc (.cells #[.pointer none, .slice none 0 0] 200)) s 0
        simpa using this
      case round =>
        obtain ⟨pos, acc, ls, rfl, hI, hit, hbw, hgo, hps, hal⟩ := hrel
        have hsz : w.heap.size + 1 < wr.heap.size := (Array.getElem?_eq_some_iff.1 hit).1
        by_cases hp : pos < s.size
        · have hdr := drop_at s pos hp
          have hwd : ∀ ty, (Instr.next (.pointer (some ⟨w.heap.size + 1, 0, none⟩)) true ty).run Tryz.prog wr = _ := fun ty => Lib.run_next_any_at wr (w.heap.size + 1) s pos ty hit hp
          by_cases hasc : (s[pos]'hp).toNat < 128
          · have hI2 := hI.iterAt hit (pos + 1)
            have hit2 := Lib.iterAt_heap wr (w.heap.size + 1) s pos (pos + 1) hit
            have hbw2 := Lib.below_iterAt hbw (k := w.heap.size + 1) (by omega) s (pos + 1)
            have hsz2 : w.heap.size ≤ (wr.iterAt (w.heap.size + 1) s (pos + 1)).heap.size := by rw [Lib.iterAt_size]; omega
            rw [decide_ascii' s pos hp hasc] at hwd
            by_cases hlet : isLet (s[pos]'hp) = true
            · have hk := (whatK_let (s[pos]'hp)).2 hlet
              have hr := whatR_small (s[pos]'hp)
              have hsm : (small (s[pos]'hp)).toNat < 128 := by rw [small_toNat]; split <;> omega
              have HG := Lib.hid hgo; have HD := Lib.hid hdr; have HL := Lib.hid hlet
              clear hgo hdr hlet
              cases ls with
              | false =>
                simp only [lastV, Bool.false_eq_true, if_false]
                go_wp2_with (first | (go_at_call 135; refine (what_any _ _ (by omega) (by omega)).mono ?_; rintro e w' ⟨rfl, rfl⟩) | (go_at_call 138; refine (writeRune_k _ _ _ _ (by omega) (by omega) _ hI2 (by rw [Lib.byteCells_length]; omega) hsz2).mono ?_; rintro e W1 ⟨rfl, h1, b1, k1⟩))
                go_roundw
                case rel =>
                  refine ⟨pos + 1, acc ++ [small (s[pos]'hp)], false, rfl, ?_, k1.iter hit2 (by omega), hbw2.trans b1, ?_, by omega, by simp; omega⟩
                  · rw [Lib.byteCells_append]; exact Or.inr h1
                  · rw [← HG.out, HD.out, formGo, if_pos HL.out]; simp
                case measure =>
                  simp only [World.iterPos, k1.iter hit2 (by omega), hit]
                  omega
              | true =>
                simp only [lastV, if_true]
                cases acc with
                | nil =>
                  go_wp2_with (first | (go_at_call 135; refine (what_any _ _ (by omega) (by omega)).mono ?_; rintro e w' ⟨rfl, rfl⟩) | (go_at_call 136; refine (Tryz.Builder_Len_f _ _ _ _ hI2).mono ?_; rintro e w' ⟨rfl, rfl⟩) | (go_at_call 138; refine (writeRune_k _ _ _ _ (by omega) (by omega) _ hI2 (by rw [Lib.byteCells_length]; simp) hsz2).mono ?_; rintro e W1 ⟨rfl, h1, b1, k1⟩))
                  refine ⟨⟨pos + 1, [small (s[pos]'hp)], false, rfl, Or.inr h1, k1.iter hit2 (by omega), hbw2.trans b1, ?_, by omega, by simp; omega⟩, ?_⟩
                  · rw [← HG.out, HD.out, formGo, if_pos HL.out]; simp
                  · simp only [World.iterPos, k1.iter hit2 (by omega), hit]
                    omega
                | cons a0 acc0 =>
                  have hpos : 0 < (Lib.byteCells (a0 :: acc0)).length := by rw [Lib.byteCells_length]; simp
                  have hlb : (Lib.byteCells (a0 :: acc0)).length + by_.size ≤ 140737488355328 := by rw [Lib.byteCells_length]; omega
                  go_wp2_with (first | (go_at_call 135; refine (what_any _ _ (by omega) (by omega)).mono ?_; rintro e w' ⟨rfl, rfl⟩) | (go_at_call 136; refine (Tryz.Builder_Len_f _ _ _ _ hI2).mono ?_; rintro e w' ⟨rfl, rfl⟩) | (go_at_call 137; refine (writeString_k _ _ _ _ _ hI2 hlb hsz2).mono ?_))
                  rintro e W1 ⟨rfl, h1, b1, k1⟩
                  have hsz3 : w.heap.size ≤ W1.heap.size := by have := b1.size; omega
                  go_wp2_with (go_at_call 138; refine (writeRune_k _ _ _ _ (by omega) (by omega) _ (Or.inr h1) (by rw [List.length_append, Lib.byteCells_length, Lib.strCells_length]; omega) hsz3).mono ?_)
                  rintro e W2 ⟨rfl, h2, b2, k2⟩
                  have hit3 := k2.iter (k1.iter hit2 (by omega)) (by omega)
                  go_wp2
                  refine ⟨⟨pos + 1, (a0 :: acc0) ++ (by_.data.toList ++ [small (s[pos]'hp)]), false, rfl, ?_, hit3, (hbw2.trans b1).trans b2, ?_, by omega, ?_⟩, ?_⟩
                  · rw [Lib.byteCells_append, Lib.byteCells_append, ← List.append_assoc]; exact Or.inr h2
                  · rw [← HG.out, HD.out, formGo, if_pos HL.out]; simp
                  · have : by_.data.toList.length = by_.size := by simp
                    simp only [List.length_append, List.length_cons, List.length_nil] at hal ⊢; omega
                  · simp only [World.iterPos, hit3, hit]
                    omega
            · simp only [Bool.not_eq_true] at hlet
              by_cases hsgn : isSgn (s[pos]'hp) = true
              · have hk := whatK_sgn (s[pos]'hp) hlet hsgn
                have HG := Lib.hid hgo; have HD := Lib.hid hdr; have HL := Lib.hid hlet; have HS := Lib.hid hsgn
                clear hgo hdr hlet hsgn
                cases acc with
                | nil =>
                  have hfin : formOut by_.data.toList s.data.toList = ([], false) := by
                    rw [H.out, ← HG.out, HD.out, formGo, if_neg (by rw [HL.out]; simp), if_pos HS.out]; rfl
                  have HF := Lib.hid hfin; clear hfin
                  go_wp2_with (first | (go_at_call 135; refine (what_any _ _ (by omega) (by omega)).mono ?_; rintro e w' ⟨rfl, rfl⟩) | (go_at_call 136; refine (Tryz.Builder_Len_f _ _ _ _ hI2).mono ?_; rintro e w' ⟨rfl, rfl⟩))
                  go_ret2
                  exact ⟨formRet_bad HF.out, hbw2⟩
                | cons a0 acc0 =>
                  have hpos : ((Lib.byteCells (a0 :: acc0)).length == (0 : Int)) = false := by rw [Lib.byteCells_length]; rw [beq_eq_false_iff_ne]; simp; omega
                  go_wp2_with (first | (go_at_call 135; refine (what_any _ _ (by omega) (by omega)).mono ?_; rintro e w' ⟨rfl, rfl⟩) | (go_at_call 136; refine (Tryz.Builder_Len_f _ _ _ _ hI2).mono ?_; rintro e w' ⟨rfl, rfl⟩))
                  refine ⟨⟨pos + 1, a0 :: acc0, true, rfl, hI2, hit2, hbw2, ?_, by omega, by omega⟩, ?_⟩
                  · rw [← HG.out, HD.out, formGo, if_neg (by rw [HL.out]; simp), if_pos HS.out, if_neg (by simp)]
                  · simp only [World.iterPos, hit2, hit]
                    omega
              · simp only [Bool.not_eq_true] at hsgn
                have hk := whatK_none (s[pos]'hp) hlet hsgn
                have hfin : formOut by_.data.toList s.data.toList = ([], false) := by
                  rw [H.out, ← hgo, hdr, formGo, if_neg (by rw [hlet]; simp), if_neg (by rw [hsgn]; simp)]
                have HF := Lib.hid hfin
                clear hfin hgo hdr hlet hsgn
                go_wp2_with (go_at_call 135; refine (what_any _ _ (by omega) (by omega)).mono ?_; rintro e w' ⟨rfl, rfl⟩)
                go_ret2
                exact ⟨formRet_bad HF.out, hbw2⟩
          · have hhi := decode_high s pos hp (by omega)
            have hd1 := decode_le s pos
            have hbw2 := Lib.below_iterAt hbw (k := w.heap.size + 1) (by omega) s (pos + (Utf8.decode s pos).2)
            have hlet : isLet (s[pos]'hp) = false := by
              cases hc : isLet (s[pos]'hp) with
              | false => rfl
              | true => have := (isLet_iff _).1 hc; omega
            have hsgn : isSgn (s[pos]'hp) = false := by
              cases hc : isSgn (s[pos]'hp) with
              | false => rfl
              | true => have := (isSgn_iff _).1 hc; omega
            have hk : whatK ((Utf8.decode s pos).1 : Int) = 0 := by unfold whatK; rw [if_neg (by omega), if_neg (by omega)]
            have hfin : formOut by_.data.toList s.data.toList = ([], false) := by
              rw [H.out, ← hgo, hdr, formGo, if_neg (by rw [hlet]; simp), if_neg (by rw [hsgn]; simp)]
            have HF := Lib.hid hfin
            clear hfin hgo hdr hlet hsgn hhi
            go_wp2_with (go_at_call 135; refine (what_any _ _ (by omega) (by omega)).mono ?_; rintro e w' ⟨rfl, rfl⟩)
            go_ret2
            exact ⟨formRet_bad HF.out, hbw2⟩
        · have hnx : ∀ ty, (Instr.next (.pointer (some ⟨w.heap.size + 1, 0, none⟩)) true ty).run Tryz.prog wr = _ := fun ty => Lib.run_next_end_at wr (w.heap.size + 1) s pos ty hit hp
          have hfin : formOut by_.data.toList s.data.toList = (acc, !ls) := by
            rw [H.out, ← hgo, List.drop_of_length_le (by simp; omega), formGo]
          have HF := Lib.hid hfin
          clear hfin hgo
          cases ls
          all_goals
            simp only [lastV, Bool.false_eq_true, if_false, if_true]
            go_wp2_with (go_at_call 139; refine (Tryz.Builder_String_any_k _ _ acc _ hI (by omega)).mono ?_)
            rintro e W1 ⟨rfl, _, b1, _⟩
            go_wp2
            go_ret2
            exact ⟨by unfold formRet; rw [HF.out]; rfl, hbw.trans b1⟩
def textErr (o : Option Bs) (err : Int) : Ending := match o with
  | some l => .returned (.tuple #[.string ⟨l.toArray⟩, .int .i64 0])
  | none => .returned (.tuple #[.string ⟨#[]⟩, .int .i64 err])
theorem textErr_some {o : Option Bs} {l : Bs} {err : Int} (h : o = some l) : .returned (.tuple #[.string ⟨l.toArray⟩, .int .i64 0]) = textErr o err := by subst h; rfl
theorem textErr_none {o : Option Bs} {err : Int} (h : o = none) : .returned (.tuple #[.string ⟨#[]⟩, .int .i64 err]) = textErr o err := by subst h; rfl
abbrev dash : ByteArray := { data := #[45] }
abbrev empty : ByteArray := { data := #[] }
theorem norm_of (s : ByteArray) (b : Bool) (h : (formOut dash.data.toList s.data.toList).2 = b) : norm s.data.toList = if b then some (formOut dash.data.toList s.data.toList).1 else none := by
  subst h; rfl
theorem squash_of (s : ByteArray) (b : Bool) (h : (formOut empty.data.toList s.data.toList).2 = b) : squash s.data.toList = if b then some (formOut empty.data.toList s.data.toList).1 else none := by
  subst h; rfl
set_option maxHeartbeats 1000000 in
theorem norm_any (s : ByteArray) (w : World) (hs : s.size ≤ 9223372036854775807) :
    Calls Tryz.prog 57 #[.string s] w fun e w' => e = textErr (norm s.data.toList) 60 ∧ Below w.heap.size w w' := by
  go_enter Tryz.func57, Tryz.ntmps57
  go_wp2_with (go_at_call 109; refine (form_any s dash _ hs (by decide)).mono ?_)
  rintro e W1 ⟨rfl, b1⟩
  unfold formRet
  obtain ⟨b, hb⟩ : ∃ b, (formOut dash.data.toList s.data.toList).2 = b := ⟨_, rfl⟩
  have HN := Lib.hid (norm_of s b hb)
  obtain ⟨l, hl⟩ : ∃ l, (formOut dash.data.toList s.data.toList).1 = l := ⟨_, rfl⟩
  rw [hb, hl]
  have HL := Lib.hid hl
  clear hb hl
  cases b
  all_goals
    go_wp2
    go_ret2
  · exact ⟨textErr_none (by rw [HN.out]; rfl), b1⟩
  · exact ⟨textErr_some (by rw [HN.out]; simpa using HL.out), b1⟩
set_option maxHeartbeats 1000000 in
theorem squash_any (s : ByteArray) (w : World) (hs : s.size ≤ 9223372036854775807) :
    Calls Tryz.prog 110 #[.string s] w fun e w' => e = textErr (squash s.data.toList) 60 ∧ Below w.heap.size w w' := by
  go_enter Tryz.func110, Tryz.ntmps110
  go_wp2_with (go_at_call 109; refine (form_any s empty _ hs (by decide)).mono ?_)
  rintro e W1 ⟨rfl, b1⟩
  unfold formRet
  obtain ⟨b, hb⟩ : ∃ b, (formOut empty.data.toList s.data.toList).2 = b := ⟨_, rfl⟩
  have HN := Lib.hid (squash_of s b hb)
  obtain ⟨l, hl⟩ : ∃ l, (formOut empty.data.toList s.data.toList).1 = l := ⟨_, rfl⟩
  rw [hb, hl]
  have HL := Lib.hid hl
  clear hb hl
  cases b
  all_goals
    go_wp2
    go_ret2
  · exact ⟨textErr_none (by rw [HN.out]; rfl), b1⟩
  · exact ⟨textErr_some (by rw [HN.out]; simpa using HL.out), b1⟩
theorem nameIs_some {s l : Bs} (h : norm s = some l) : nameIs s = (l == s) := by unfold nameIs; rw [h]; rfl
theorem nameIs_none {s : Bs} (h : norm s = none) : nameIs s = false := by unfold nameIs; rw [h]; rfl
set_option maxHeartbeats 1000000 in
theorem nameIs_any (s : ByteArray) (w : World) (hs : s.size ≤ 9223372036854775807) :
    Calls Tryz.prog 124 #[.string s] w fun e w' => e = .returned (.bool (nameIs s.data.toList)) ∧ Below w.heap.size w w' := by
  go_enter Tryz.func124, Tryz.ntmps124
  go_wp2_with (go_at_call 57; refine (norm_any s _ hs).mono ?_)
  rintro e W1 ⟨rfl, b1⟩
  obtain ⟨o, ho⟩ : ∃ o, norm s.data.toList = o := ⟨_, rfl⟩
  rw [ho]
  have HO := Lib.hid ho
  clear ho
  cases o with
  | none =>
    simp only [textErr]
    go_wp2
    go_ret
    exact ⟨ret_bool (nameIs_none HO.out).symm, b1⟩
  | some l =>
    simp only [textErr]
    go_wp2
    go_ret
    exact ⟨ret_bool (by rw [nameIs_some HO.out, Lib.toList_data]), b1⟩
end Go.Proofs.YtggdgjifhikmiaaGreatDoor
