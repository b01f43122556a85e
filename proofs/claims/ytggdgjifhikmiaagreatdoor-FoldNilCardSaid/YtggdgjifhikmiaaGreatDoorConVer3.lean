/- Contracts of package version: digits, plain, ident, number. Conditions: a string's own bound. Contracts of version.number, slices.ContainsFunc at May's own predicate, version.May. Conditions: bounds of the kinds. Contracts of slices.IndexFunc, ContainsFunc at version.May's predicate; of version.May. Conditions: bounds of the kinds; the slice reads as strings. -/
import Derived.Test.YtggdgjifhikmiaaGreatDoorBase
import Derived.Test.YtggdgjifhikmiaaGreatDoorShelf
set_option linter.unusedVariables false
namespace Go.Proofs.YtggdgjifhikmiaaGreatDoor
open Go.RowKit Yk
theorem isDig_iff (c : UInt8) : isDig c = true ↔ (48 ≤ c.toNat ∧ c.toNat ≤ 57) := by
  simp only [isDig, Bool.and_eq_true, decide_eq_true_eq, UInt8.le_iff_toNat_le, UInt8.reduceToNat]
theorem digits_end (s : ByteArray) (h : (bs s).all isDig = true) : digitsL (bs s) = !(bs s).isEmpty := by unfold digitsL; rw [h]; rfl
theorem digits_bad (s : ByteArray) (h : (bs s).all isDig = false) : digitsL (bs s) = false := by unfold digitsL; rw [h]; rfl
def digRel (s : ByteArray) (i : Value) : Prop := ∃ k : Nat, k ≤ s.size ∧ i = .int .i64 k ∧ ((bs s).take k).all isDig = true
set_option maxHeartbeats 1000000 in
theorem digits_any (s : ByteArray) (w : World) (hs : s.size ≤ 9223372036854775807) :
    Calls Tryz.prog 188 #[.string s] w fun e w' => e = .returned (.bool (digitsL (bs s))) ∧ w = w' := by
  go_enter Tryz.func188, Tryz.ntmps188
  go_wp2
  go_loop [6] (fun i => digRel s i) (fun i => s.size - (intOf i).toNat)
  case atStart => exact ⟨0, Nat.zero_le _, rfl, by simp⟩
  case round =>
    obtain ⟨k, hk, rfl, hall⟩ := hrel
    have HA := Lib.hid hall; clear hall
    by_cases hlt : k < s.size
    · by_cases hd : isDig (s[k]'hlt) = true
      · have hsn := Lib.hid (all_take_snoc isDig s k hlt)
        have hd' := (isDig_iff _).1 hd
        have HD := Lib.hid hd; clear hd
        obtain ⟨ha, hb⟩ := hd'
        go_wp2
        go_round
        case rel => exact ⟨k + 1, by omega, by go_num, by rw [hsn.out, HA.out, HD.out]; rfl⟩
        case measure => simp [intOf]; omega
      · have hno := Lib.hid (digits_bad s (all_of_take isDig s k hlt (by simpa using hd)))
        have hd' : ¬ (48 ≤ (s[k]'hlt).toNat ∧ (s[k]'hlt).toNat ≤ 57) := fun h => hd ((isDig_iff _).2 h)
        clear hd
        by_cases hlo : (s[k]'hlt).toNat < 48
        · clear hd'
          go_wp2
          go_ret
          exact ⟨ret_bool hno.out.symm, rfl⟩
        · have hhi : 57 < (s[k]'hlt).toNat := by omega
          clear hd'
          go_wp2
          go_ret
          exact ⟨ret_bool hno.out.symm, rfl⟩
    · have hE := Lib.hid (digits_end s (by have := HA.out; rwa [List.take_of_length_le (by simp; omega)] at this))
      go_wp2
      go_ret
      exact ⟨ret_bool (by rw [hE.out, Lib.toList_data]), rfl⟩
theorem plain_one (s : ByteArray) (h : s.size = 1) : plainL (bs s) = true := by unfold plainL; rw [bs_length, h]; rfl
theorem plain_more (s : ByteArray) (h0 : 0 < s.size) (h : s.size ≠ 1) : plainL (bs s) = ((s[0]'h0).toNat != (48 : Int)) := by
  unfold plainL; rw [bs_length, head_at s h0]
  have : (s.size == 1) = false := by simpa using h
  rw [this, Bool.false_or, Bool.eq_iff_iff]
  simp only [bne_iff_ne, ne_eq, Option.some.injEq, ← UInt8.toNat_inj, UInt8.reduceToNat]; omega
set_option maxHeartbeats 1000000 in
theorem plain_any (s : ByteArray) (w : World) (hs : s.size ≤ 9223372036854775807) (h0 : 0 < s.size) :
    Calls Tryz.prog 189 #[.string s] w fun e w' => e = .returned (.bool (plainL (bs s))) ∧ w = w' := by
  by_cases h1 : s.size = 1
  · have HP := Lib.hid (plain_one s h1)
    have hb : ((s.size : Int) == 1) = true := by rw [h1]; rfl
    clear h1
    go_enter Tryz.func189, Tryz.ntmps189
    go_wp2
    go_ret
    exact ⟨ret_bool HP.out.symm, rfl⟩
  · have HP := Lib.hid (plain_more s h0 h1)
    have hb : ((s.size : Int) == 1) = false := by rw [beq_eq_false_iff_ne]; omega
    clear h1
    go_enter Tryz.func189, Tryz.ntmps189
    go_wp2
    go_ret
    exact ⟨ret_bool HP.out.symm, rfl⟩
theorem ident_short (s : ByteArray) (h : s.size = 0 ∨ 16 < s.size) : identL (bs s) = false := by
  unfold identL
  have : ((bs s).isEmpty || decide (16 < (bs s).length)) = true := by
    rw [Bool.or_eq_true, List.isEmpty_iff_length_eq_zero, decide_eq_true_eq, bs_length]; exact h
  rw [this]; rfl
theorem ident_bad (s : ByteArray) (h : (bs s).all idC = false) : identL (bs s) = false := by
  unfold identL; rw [h, Bool.and_false, Bool.false_and]
theorem ident_end (s : ByteArray) (h0 : 0 < s.size) (h1 : s.size ≤ 16) (h : (bs s).all idC = true) : identL (bs s) = (!digitsL (bs s) || plainL (bs s)) := by
  unfold identL
  have : ((bs s).isEmpty || decide (16 < (bs s).length)) = false := by
    rw [Bool.or_eq_false_iff, decide_eq_false_iff_not, bs_length]
    refine ⟨?_, by omega⟩
    cases hb : (bs s).isEmpty with
    | false => rfl
    | true => rw [List.isEmpty_iff_length_eq_zero, bs_length] at hb; omega
  rw [this, h]; rfl
theorem idC_iff (c : UInt8) : idC c = true ↔ ((48 ≤ c.toNat ∧ c.toNat ≤ 57) ∨ (97 ≤ c.toNat ∧ c.toNat ≤ 122) ∨ c.toNat = 45) := by
  simp only [idC, isDig, isLow, Bool.or_eq_true, Bool.and_eq_true, decide_eq_true_eq, UInt8.le_iff_toNat_le, UInt8.reduceToNat, beq_iff_eq, ← UInt8.toNat_inj, or_assoc]
def idRel (s : ByteArray) (i : Value) : Prop := ∃ k : Nat, k ≤ s.size ∧ i = .int .i64 k ∧ ((bs s).take k).all idC = true
set_option maxHeartbeats 2000000 in
theorem ident_any (s : ByteArray) (w : World) (hs : s.size ≤ 9223372036854775807) :
    Calls Tryz.prog 193 #[.string s] w fun e w' => e = .returned (.bool (identL (bs s))) ∧ w = w' := by
  by_cases h0 : s.size = 0
  · have HI := Lib.hid (ident_short s (.inl h0))
    have he : s.toList = [] := by rw [Lib.toList_data]; exact List.eq_nil_of_length_eq_zero (by rw [bs_length, h0])
    clear h0
    go_enter Tryz.func193, Tryz.ntmps193
    go_wp2
    go_ret
    exact ⟨ret_bool HI.out.symm, rfl⟩
  · have he : (s.toList == []) = false := by
      rw [Lib.toList_data, beq_eq_false_iff_ne]; intro h; have := bs_length s; rw [bs, h] at this; simp at this; omega
    by_cases h1 : 16 < s.size
    · have HI := Lib.hid (ident_short s (.inr h1))
      clear h0
      go_enter Tryz.func193, Tryz.ntmps193
      go_wp2
      go_ret
      exact ⟨ret_bool HI.out.symm, rfl⟩
    · have h0' : 0 < s.size := by omega
      clear h0
      go_enter Tryz.func193, Tryz.ntmps193
      go_wp2
      go_loop [14] (fun i => idRel s i) (fun i => s.size - (intOf i).toNat)
      case atStart => exact ⟨0, Nat.zero_le _, rfl, by simp⟩
      case round =>
        obtain ⟨k, hk, rfl, hall⟩ := hrel
        have HA := Lib.hid hall; clear hall
        by_cases hlt : k < s.size
        · by_cases hd : idC (s[k]'hlt) = true
          · have hsn := Lib.hid (all_take_snoc idC s k hlt)
            have hd' := (idC_iff _).1 hd
            have HD := Lib.hid hd; clear hd
            rcases hd' with ⟨ha, hb⟩ | ⟨ha, hb⟩ | ha
            · go_wp2
              go_round
              case rel => exact ⟨k + 1, by omega, by go_num, by rw [hsn.out, HA.out, HD.out]; rfl⟩
              case measure => simp [intOf]; omega
            · go_wp2
              go_round
              case rel => exact ⟨k + 1, by omega, by go_num, by rw [hsn.out, HA.out, HD.out]; rfl⟩
              case measure => simp [intOf]; omega
            · have hc : (((s[k]'hlt).toNat : Int) == 45) = true := by rw [beq_iff_eq]; omega
              have hc1 : (s[k]'hlt).toNat < 48 := by omega
              clear ha
              go_wp2
              go_round
              case rel => exact ⟨k + 1, by omega, by go_num, by rw [hsn.out, HA.out, HD.out]; rfl⟩
              case measure => simp [intOf]; omega
          · have hno := Lib.hid (ident_bad s (all_of_take idC s k hlt (by simpa using hd)))
            have hd' : ¬ ((48 ≤ (s[k]'hlt).toNat ∧ (s[k]'hlt).toNat ≤ 57) ∨ (97 ≤ (s[k]'hlt).toNat ∧ (s[k]'hlt).toNat ≤ 122) ∨ (s[k]'hlt).toNat = 45) := fun h => hd ((idC_iff _).2 h)
            have hc : (((s[k]'hlt).toNat : Int) == 45) = false := by rw [beq_eq_false_iff_ne]; intro h; exact hd' (.inr (.inr (by omega)))
            have hcase : (s[k]'hlt).toNat < 48 ∨ (58 ≤ (s[k]'hlt).toNat ∧ (s[k]'hlt).toNat < 97) ∨ 123 ≤ (s[k]'hlt).toNat := by omega
            clear hd hd'
            rcases hcase with h | ⟨ha, hb⟩ | h
            all_goals
              go_wp2
              go_ret
              exact ⟨ret_bool hno.out.symm, rfl⟩
        · have hE := Lib.hid (ident_end s h0' (by omega) (by have := HA.out; rwa [List.take_of_length_le (by simp; omega)] at this))
          obtain ⟨d, hd⟩ : ∃ d, digitsL (bs s) = d := ⟨_, rfl⟩
          have HD := Lib.hid hd
          cases d
          · go_wp2_with (go_at_call 188; refine (digits_any _ _ hs).mono ?_; rintro e w' ⟨rfl, rfl⟩)
            go_ret
            exact ⟨ret_bool (by rw [hE.out, HD.out]; rfl), rfl⟩
          · go_wp2_with (first | (go_at_call 188; refine (digits_any _ _ hs).mono ?_; rintro e w' ⟨rfl, rfl⟩) | (go_at_call 189; refine (plain_any _ _ hs h0').mono ?_; rintro e w' ⟨rfl, rfl⟩))
            go_ret
            exact ⟨ret_bool (by rw [hE.out, HD.out]; rfl), rfl⟩
end Go.Proofs.YtggdgjifhikmiaaGreatDoor
set_option linter.unusedVariables false
namespace Go.Proofs.YtggdgjifhikmiaaGreatDoor
open Go.RowKit Yk
theorem parseM_ok (M : Nat) (l : Bs) : ∀ acc : Nat, l.all isDig = true → (acc + 1) * 10 ^ l.length ≤ 10 ^ 18 → 10 ^ 18 ≤ M → Lib.parseUintM M acc l = .ok (l.foldl (fun n c => 10 * n + (c.toNat - 48)) acc) := by
  induction l with
  | nil => intro acc _ _ _; rfl
  | cons c r ih =>
    intro acc hall hb hM
    simp only [List.all_cons, Bool.and_eq_true] at hall
    have hd := (isDig_iff c).1 hall.1
    rw [List.length_cons, Nat.pow_succ] at hb
    have h1 : 1 ≤ 10 ^ r.length := Nat.one_le_pow _ _ (by omega)
    have h2 : (acc + 1) * 10 ≤ 10 ^ 18 := Nat.le_trans (by
      have : (acc + 1) * 10 * 1 ≤ (acc + 1) * 10 * 10 ^ r.length := Nat.mul_le_mul_left _ h1
      rw [Nat.mul_one] at this
      exact Nat.le_trans this (by rw [Nat.mul_assoc, Nat.mul_comm 10]; exact Nat.le_refl _)) hb
    have h18 : (10 : Nat) ^ 18 = 1000000000000000000 := by decide
    rw [h18] at h2 hM hb
    rw [Lib.parseUintM, if_pos hd, if_neg (by omega), if_neg (by omega)]
    rw [ih _ hall.2 ?_ (by rw [h18]; exact hM)]
    · rw [List.foldl_cons, Nat.mul_comm acc 10]
    · rw [h18]
      refine Nat.le_trans ?_ hb
      rw [show (acc + 1) * (10 ^ r.length * 10) = ((acc + 1) * 10) * 10 ^ r.length by rw [Nat.mul_assoc, Nat.mul_comm 10]]
      exact Nat.mul_le_mul_right _ (by omega)
theorem parse_ok (s : ByteArray) (hd : digitsL (bs s) = true) (hl : s.size ≤ 10) : Lib.parseUintB 64 s.data.toList = .ok (valL (bs s)) := by
  unfold digitsL at hd
  simp only [Bool.and_eq_true, Bool.not_eq_true'] at hd
  unfold Lib.parseUintB
  rw [if_neg (by intro h; have := hd.2; rw [bs, h] at this; cases this)]
  refine parseM_ok _ _ 0 hd.1 ?_ (by decide)
  have : s.data.toList.length = s.size := by simp
  rw [this, Nat.zero_add, Nat.one_mul]
  exact Nat.pow_le_pow_right (by omega) (by omega)
theorem valL_lt (s : ByteArray) (hd : digitsL (bs s) = true) (hl : s.size ≤ 10) : valL (bs s) ≤ 18446744073709551615 := by
  have h := parse_ok s hd hl
  exact Lib.parseUintB_le h
def numRet (s : ByteArray) : Ending := .returned (.tuple #[.int .u32 (numOut (bs s)).1, .bool (numOut (bs s)).2])
theorem numRet_bad {s : ByteArray} (h : (digitsL (bs s) && plainL (bs s) && decide (s.size ≤ 10)) = false) : .returned (.tuple #[.int .u32 0, .bool false]) = numRet s := by
  unfold numRet numOut; rw [bs_length, h]; rfl
theorem numRet_ok {s : ByteArray} (h : (digitsL (bs s) && plainL (bs s) && decide (s.size ≤ 10)) = true) : .returned (.tuple #[.int .u32 ((valL (bs s) : Int) % 4294967296), .bool (decide ((valL (bs s) : Int) ≤ 2147483647))]) = numRet s := by
  unfold numRet numOut; rw [bs_length, h, if_pos rfl]
  simp
  omega
set_option maxHeartbeats 2000000 in
theorem number_any (s : ByteArray) (w : World) (hs : s.size ≤ 9223372036854775806) :
    Calls Tryz.prog 152 #[.string s] w fun e w' => e = numRet s ∧ Below w.heap.size w w' := by
  obtain ⟨d, hd⟩ : ∃ d, digitsL (bs s) = d := ⟨_, rfl⟩
  cases d with
  | false =>
    have HB := Lib.hid (numRet_bad (s := s) (by rw [hd]; rfl))
    have hd' : (digitsL (bs s)) = false := hd
    clear hd
    go_enter Tryz.func152, Tryz.ntmps152
    go_wp2_with (go_at_call 188; refine (digits_any _ _ (by omega)).mono ?_; rintro e w' ⟨rfl, rfl⟩)
    go_ret2
    exact ⟨HB.out, Below.refl _ _⟩
  | true =>
    have h0 : 0 < s.size := by
      rcases Nat.eq_zero_or_pos s.size with h | h
      · have : bs s = [] := List.eq_nil_of_length_eq_zero (by rw [bs_length, h])
        rw [this] at hd; cases hd
      · exact h
    obtain ⟨p, hp⟩ : ∃ p, plainL (bs s) = p := ⟨_, rfl⟩
    cases p with
    | false =>
      have HB := Lib.hid (numRet_bad (s := s) (by rw [hd, hp]; rfl))
      go_enter Tryz.func152, Tryz.ntmps152
      go_wp2_with (first | (go_at_call 188; refine (digits_any _ _ (by omega)).mono ?_; rintro e w' ⟨rfl, rfl⟩) | (go_at_call 189; refine (plain_any _ _ (by omega) h0).mono ?_; rintro e w' ⟨rfl, rfl⟩))
      go_ret2
      exact ⟨HB.out, Below.refl _ _⟩
    | true =>
      by_cases hl : s.size ≤ 10
      · have HB := Lib.hid (numRet_ok (s := s) (by rw [hd, hp]; simp [hl]))
        have hpo := parse_ok s hd hl
        have hvl := valL_lt s hd hl
        have HP := Lib.hid hpo; clear hpo
        go_enter Tryz.func152, Tryz.ntmps152
        go_wp2_with (first | (go_at_call 188; refine (digits_any _ _ (by omega)).mono ?_; rintro e w' ⟨rfl, rfl⟩) | (go_at_call 189; refine (plain_any _ _ (by omega) h0).mono ?_; rintro e w' ⟨rfl, rfl⟩) | (go_at_call 190; refine (Tryz.strconv_ParseUint_10_at64_ok _ hs _ HP.out _).mono ?_))
        rintro e w1 ⟨rfl, hw⟩
        have hb1 : Below w.heap.size w w1 := by
          rcases hw with rfl | rfl
          · exact Below.refl _ _
          · exact Lib.bytesWorld_below _ _ _
        clear hw
        go_wp2
        go_ret2
        exact ⟨HB.out, hb1⟩
      · have HB := Lib.hid (numRet_bad (s := s) (by rw [hd, hp]; simp; omega))
        go_enter Tryz.func152, Tryz.ntmps152
        go_wp2_with (first | (go_at_call 188; refine (digits_any _ _ (by omega)).mono ?_; rintro e w' ⟨rfl, rfl⟩) | (go_at_call 189; refine (plain_any _ _ (by omega) h0).mono ?_; rintro e w' ⟨rfl, rfl⟩))
        go_ret2
        exact ⟨HB.out, Below.refl _ _⟩
end Go.Proofs.YtggdgjifhikmiaaGreatDoor
set_option linter.unusedVariables false
namespace Go.Proofs.YtggdgjifhikmiaaGreatDoor
open Go.RowKit Yk
def badIdent (s : ByteArray) : Bool := !identL (bs s)
set_option maxHeartbeats 400000 in
theorem mayPred (s : ByteArray) (w : World) (hs : s.size ≤ 9223372036854775807) :
    Calls Tryz.prog 192 #[.string s] w fun e w' => e = .returned (.bool (badIdent s)) ∧ w = w' := by
  go_enter Tryz.func192, Tryz.ntmps192
  go_wp2_with (go_at_call 193; refine (ident_any _ _ hs).mono ?_; rintro e w' ⟨rfl, rfl⟩)
  go_ret
  exact ⟨ret_bool rfl, rfl⟩
/-- where the first bad one stands; -1 -/
def firstBad (xs : List ByteArray) : Int := match xs.findIdx? badIdent with | some k => k | none => -1
theorem firstBad_none {xs : List ByteArray} (h : xs.all (fun s => !badIdent s) = true) : firstBad xs = -1 := by
  unfold firstBad
  rw [List.findIdx?_eq_none_iff.2 (by
    intro x hx; rw [List.all_eq_true] at h; have := h x hx; simpa using this)]
theorem firstBad_some {xs : List ByteArray} {k : Nat} (hk : k < xs.length) (h : (xs.take k).all (fun s => !badIdent s) = true) (hb : badIdent (xs[k]'hk) = true) : firstBad xs = k := by
  unfold firstBad
  rw [List.findIdx?_eq_some_iff_getElem.2 ⟨hk, hb, fun j hj => ?_⟩]
  rw [List.all_eq_true] at h
  have := h (xs[j]'(by omega)) (List.mem_take_iff_getElem.2 ⟨j, by omega, rfl⟩)
  simpa using this
theorem strs_take_snoc (f : ByteArray → Bool) (xs : List ByteArray) (k : Nat) (h : k < xs.length) : (xs.take (k + 1)).all f = ((xs.take k).all f && f (xs[k]'h)) := by
  rw [List.take_succ_eq_append_getElem h, List.all_append]
  simp
def fbRel (xs : List ByteArray) (i : Value) : Prop := ∃ k : Nat, k ≤ xs.length ∧ i = .int .i64 k ∧ (xs.take k).all (fun s => !badIdent s) = true
set_option maxHeartbeats 2000000 in
theorem indexFunc_any (v : Value) (xs : List ByteArray) (w : World) (hx : StrsAt w v xs) :
    Calls Tryz.prog 219 #[v, .func (.func 192) #[] #[]] w fun e w' => e = .returned (.int .i64 (firstBad xs)) ∧ w = w' := by
  obtain ⟨A, c, rfl, hm, hsz, ha⟩ := hx
  have HS := Lib.hid hsz; clear hsz
  rcases Nat.eq_zero_or_pos xs.length with h0 | h0
  · obtain rfl := List.eq_nil_of_length_eq_zero h0
    clear ha h0
    go_enter Tryz.func219, Tryz.ntmps219
    go_wp2
    have hF : firstBad [] = -1 := rfl
    have HF := Lib.hid hF; clear hF
    go_loop [8] (fun i => i = .int .i64 0) (fun i => 0)
    case atStart => rfl
    case round =>
      subst hrel
      go_wp2
      go_ret
      exact ⟨ret_int HF.out.symm, rfl⟩
  · obtain ⟨b, off, rfl, hlt, hc⟩ := ha h0
    have HC := Lib.hid hc; clear hc
    go_enter Tryz.func219, Tryz.ntmps219
    go_wp2
    go_loop [8] (fun i => fbRel xs i) (fun i => xs.length - (intOf i).toNat)
    case atStart => exact ⟨0, Nat.zero_le _, rfl, by simp⟩
    case round =>
      obtain ⟨k, hk, rfl, hall⟩ := hrel
      have HA := Lib.hid hall; clear hall
      by_cases hlt : k < xs.length
      · have hcell := HC.out k hlt
        have hxs := HS.out _ (List.getElem_mem hlt)
        obtain ⟨bad, hbad⟩ : ∃ bad, badIdent (xs[k]'hlt) = bad := ⟨_, rfl⟩
        have HB := Lib.hid hbad
        cases bad
        · have hsn := Lib.hid (strs_take_snoc (fun s => !badIdent s) xs k hlt)
          go_wp2_with (go_at_call 192; refine (mayPred _ _ (by omega)).mono ?_; rintro e w' ⟨rfl, rfl⟩)
          go_round
          case rel => exact ⟨k + 1, by omega, by go_num, by rw [hsn.out, HA.out, HB.out]; rfl⟩
          case measure => simp [intOf]; omega
        · have hF := Lib.hid (firstBad_some hlt HA.out hbad)
          go_wp2_with (go_at_call 192; refine (mayPred _ _ (by omega)).mono ?_; rintro e w' ⟨rfl, rfl⟩)
          go_ret
          exact ⟨ret_int hF.out.symm, rfl⟩
      · have hF := Lib.hid (firstBad_none (xs := xs) (by have := HA.out; rwa [List.take_of_length_le (by omega)] at this))
        go_wp2
        go_ret
        exact ⟨ret_int hF.out.symm, rfl⟩
theorem firstBad_ge (xs : List ByteArray) : decide (0 ≤ firstBad xs) = !(xs.map bs).all identL := by
  unfold firstBad
  cases h : xs.findIdx? badIdent with
  | none =>
    have := List.findIdx?_eq_none_iff.1 h
    have h2 : (xs.map bs).all identL = true := by
      rw [List.all_eq_true]; intro x hx
      obtain ⟨y, hy, rfl⟩ := List.mem_map.1 hx
      have := this y hy
      simpa [badIdent] using this
    rw [h2]; rfl
  | some k =>
    obtain ⟨hk, hb, _⟩ := List.findIdx?_eq_some_iff_getElem.1 h
    have h2 : (xs.map bs).all identL = false := by
      rw [Bool.eq_false_iff]; intro hall
      rw [List.all_eq_true] at hall
      have := hall (bs (xs[k]'hk)) (List.mem_map.2 ⟨_, List.getElem_mem hk, rfl⟩)
      simp [badIdent, this] at hb
    rw [h2]; simp
set_option maxHeartbeats 400000 in
theorem containsFunc_any (v : Value) (xs : List ByteArray) (w : World) (hx : StrsAt w v xs) :
    Calls Tryz.prog 191 #[v, .func (.func 192) #[] #[]] w fun e w' => e = .returned (.bool (!(xs.map bs).all identL)) ∧ w = w' := by
  have HF := Lib.hid (firstBad_ge xs)
  go_enter Tryz.func191, Tryz.ntmps191
  go_wp2_with (go_at_call 219; refine (indexFunc_any _ _ _ hx).mono ?_; rintro e w' ⟨rfl, rfl⟩)
  go_ret
  exact ⟨ret_bool HF.out, rfl⟩
def vAgg (a b c : Int) (v : Value) : Value := .agg #[.int .u32 a, .int .u32 b, .int .u32 c, v]
theorem verMay_num {a b c : Int} {l : List Bs} (h : 2147483647 < a ∨ 2147483647 < b ∨ 2147483647 < c) : verMay ⟨a, b, c, l⟩ = false := by
  unfold verMay
  rcases h with h | h | h
  · simp [show ¬ a ≤ 2147483647 by omega]
  · simp [show ¬ b ≤ 2147483647 by omega]
  · simp [show ¬ c ≤ 2147483647 by omega]
theorem verMay_pre {a b c : Int} {l : List Bs} (h : 8 < l.length) : verMay ⟨a, b, c, l⟩ = false := by
  unfold verMay; simp [show ¬ l.length ≤ 8 by omega]
theorem verMay_end {a b c : Int} {l : List Bs} (h1 : a ≤ 2147483647) (h2 : b ≤ 2147483647) (h3 : c ≤ 2147483647) (h : l.length ≤ 8) : verMay ⟨a, b, c, l⟩ = l.all identL := by
  unfold verMay; simp [h1, h2, h3, h]
set_option maxHeartbeats 2000000 in
theorem verMay_any (a b c : Int) (v : Value) (xs : List ByteArray) (w : World) (ha0 : 0 ≤ a) (hb0 : 0 ≤ b) (hc0 : 0 ≤ c) (hx : StrsAt w v xs) :
    Calls Tryz.prog 153 #[.agg #[.int .u32 a, .int .u32 b, .int .u32 c, v]] w fun e w' => e = .returned (.int .i64 (okOr (verMay ⟨a, b, c, xs.map bs⟩) 70)) ∧ Below w.heap.size w w' := by
  have hx' := hx
  obtain ⟨A, cp, rfl, hm, hsz, haa⟩ := hx'
  clear hsz haa
  go_enter Tryz.func153, Tryz.ntmps153
  have hb1 : Below w.heap.size w (w.alloc (.cells #[.int .u32 a, .int .u32 b, .int .u32 c, .slice A xs.length cp] 162)) := (Below.refl _ _).alloc (Nat.le_refl _) _
  obtain ⟨al, hal⟩ : ∃ al, (xs.map bs).all identL = al := ⟨_, rfl⟩
  have HL := Lib.hid hal; clear hal
  have hml : (xs.map bs).length = xs.length := by simp
  have HM := Lib.hid hml; clear hml
  have hce : ∀ W, StrsAt W (.slice A xs.length cp) xs → Calls Tryz.prog 191 #[.slice A xs.length cp, .func (.func 192) #[] #[]] W fun e w' => e = .returned (.bool (!al)) ∧ W = w' := fun W hW => by
    have := containsFunc_any _ xs W hW
    rwa [HL.out] at this
  have HC := Lib.hid hce; clear hce
  cases al
  all_goals
    go_wp2_with (go_at_call 191; refine (HC.out _ (hx.below hb1)).mono ?_; rintro e w' ⟨rfl, rfl⟩)
    all_goals go_ret
  all_goals first
    | exact ⟨ret_int (by rw [verMay_num (by omega)]; rfl), hb1⟩
    | exact ⟨ret_int (by rw [verMay_pre (by rw [HM.out]; omega)]; rfl), hb1⟩
    | exact ⟨ret_int (by rw [verMay_end (by omega) (by omega) (by omega) (by rw [HM.out]; omega), HL.out]; rfl), hb1⟩
set_option maxHeartbeats 400000 in
theorem clipStr_any (A : Option Addr) (n c : Nat) (w : World) (h : n ≤ c) (hn : n ≤ 140737488355328) :
    Calls Tryz.prog 107 #[.slice A n c] w fun e w' => e = .returned (.slice A n n) ∧ w = w' := by
  go_enter Tryz.func107, Tryz.ntmps107
  go_wp2
  go_ret
  exact ⟨rfl, rfl⟩
end Go.Proofs.YtggdgjifhikmiaaGreatDoor
