/- Go's Cut and Split at a separator of one byte, in the words of the version's specification. No condition. -/
import Derived.Test.YtggdgjifhikmiaaGreatDoorSpecVer
import Derived.Lib.SplitLaws
import Derived.Lib.IndexMore
namespace Yk
open Go
theorem cut1_some {c : UInt8} : ∀ {l : Bs} {a b : Bs}, cut1 c l = some (a, b) → l = a ++ c :: b ∧ Lib.index l [c] = (a.length : Int) ∧ splitAt1 c l = a :: splitAt1 c b
  | [], a, b, h => by simp [cut1] at h
  | x :: r, a, b, h => by
    unfold cut1 at h
    by_cases hx : (x == c) = true
    · rw [if_pos hx] at h
      simp only [Option.some.injEq, Prod.mk.injEq] at h
      obtain ⟨rfl, rfl⟩ := h
      have : x = c := by simpa using hx
      subst this
      refine ⟨rfl, ?_, ?_⟩
      · simp [Lib.index, List.isPrefixOf]
      · simp [splitAt1]
    · rw [if_neg hx] at h
      obtain ⟨⟨a', b'⟩, hc, he⟩ := Option.map_eq_some_iff.1 h
      simp only [Prod.mk.injEq] at he
      obtain ⟨rfl, rfl⟩ := he
      obtain ⟨h1, h2, h3⟩ := cut1_some hc
      refine ⟨by rw [h1]; rfl, ?_, ?_⟩
      · have hxc : (c == x) = false := by
          simp only [Bool.not_eq_true, beq_eq_false_iff_ne] at hx ⊢; exact fun e => hx e.symm
        have hne : ¬ ((a'.length : Int) == -1) = true := by rw [beq_iff_eq]; omega
        simp only [Lib.index, List.isPrefixOf, hxc, Bool.false_and, Bool.false_eq_true, if_false, h2, if_neg hne]
        simp
      · simp only [splitAt1, if_neg hx, h3]
theorem cut1_none {c : UInt8} : ∀ {l : Bs}, cut1 c l = none → Lib.index l [c] = -1 ∧ splitAt1 c l = [l]
  | [], _ => by simp [Lib.index, splitAt1]
  | x :: r, h => by
    unfold cut1 at h
    by_cases hx : (x == c) = true
    · rw [if_pos hx] at h; cases h
    · rw [if_neg hx] at h
      obtain ⟨h1, h2⟩ := cut1_none (Option.map_eq_none_iff.1 h)
      have hxc : (c == x) = false := by
        simp only [Bool.not_eq_true, beq_eq_false_iff_ne] at hx ⊢; exact fun e => hx e.symm
      refine ⟨?_, ?_⟩
      · simp [Lib.index, List.isPrefixOf, hxc, h1]
      · simp only [splitAt1, if_neg hx, h2]
theorem cut_one (c : UInt8) (l : Bs) : Lib.cut l [c] = (match cut1 c l with | none => (l, [], false) | some p => (p.1, p.2, true)) := by
  unfold Lib.cut
  cases h : cut1 c l with
  | none => rw [(cut1_none h).1]; rfl
  | some p =>
    obtain ⟨a, b⟩ := p
    obtain ⟨h1, h2, _⟩ := cut1_some h
    rw [h2, if_pos (by omega)]
    simp [h1]
theorem split_fuel (c : UInt8) : ∀ (n : Nat) (l : Bs), l.length < n → Lib.splitK [c] 0 (Lib.countFrom [c] n l) l = splitAt1 c l
  | 0, l, h => by omega
  | n + 1, l, h => by
    unfold Lib.countFrom
    cases hc : cut1 c l with
    | none =>
      obtain ⟨h1, h2⟩ := cut1_none hc
      rw [h1, if_pos (by decide), h2]; rfl
    | some p =>
      obtain ⟨a, b⟩ := p
      obtain ⟨h1, h2, h3⟩ := cut1_some hc
      have hne : ¬ ((a.length : Int) == -1) = true := by rw [beq_iff_eq]; omega
      rw [h2, if_neg hne, Nat.add_comm 1]
      unfold Lib.splitK
      rw [h2, if_neg hne, h3]
      have hd : l.drop ((a.length : Int).toNat + [c].length) = b := by rw [h1]; simp
      have ht : l.take ((a.length : Int).toNat + 0) = a := by rw [h1]; simp
      rw [hd, ht, split_fuel c n b (by rw [h1] at h; simp at h; omega)]
theorem split_one (c : UInt8) (l : Bs) : Lib.splitK [c] 0 (Lib.count l [c]) l = splitAt1 c l := split_fuel c _ l (by omega)
theorem split_bytes (c : UInt8) (s : ByteArray) : (Lib.splitB ⟨#[c]⟩ 0 (Lib.countB s ⟨#[c]⟩) s).map (·.data.toList) = splitAt1 c s.data.toList := by
  rw [Lib.splitB_data]; exact split_one c _
theorem split_length (c : UInt8) (s : ByteArray) : (Lib.splitB ⟨#[c]⟩ 0 (Lib.countB s ⟨#[c]⟩) s).length = Lib.countB s ⟨#[c]⟩ + 1 := Lib.splitB_all ⟨#[c]⟩ (show 1 ≤ 1 from Nat.le_refl 1) 0 _ s rfl
theorem piece_le {c : UInt8} : ∀ {l : Bs} {p : Bs}, p ∈ splitAt1 c l → p.length ≤ l.length
  | [], p, h => by simp [splitAt1] at h; subst h; simp
  | x :: r, p, h => by
    unfold splitAt1 at h
    split at h
    · rcases List.mem_cons.1 h with rfl | h
      · simp
      · have := piece_le h; simp; omega
    · split at h
      · simp at h; subst h; simp
      · rename_i hd tl e
        rcases List.mem_cons.1 h with rfl | h
        · have : hd ∈ splitAt1 c r := by rw [e]; simp
          have := piece_le this; simp; omega
        · have : p ∈ splitAt1 c r := by rw [e]; exact List.mem_cons_of_mem _ h
          have := piece_le this; simp; omega
theorem splitAt1_length_le (c : UInt8) : ∀ l : Bs, (splitAt1 c l).length ≤ l.length + 1
  | [] => by simp [splitAt1]
  | x :: r => by
    have := splitAt1_length_le c r
    unfold splitAt1
    split
    · simp; omega
    · split
      · simp
      · rename_i e; rw [e] at this; simp at this ⊢; omega
end Yk
