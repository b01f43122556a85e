/- Names in plain Lean: what may be, the one form; the program's loop and the document's tell the same. No condition. Versions in plain Lean: what may be, reading, order. No condition. -/
namespace Yk
abbrev Bs := List UInt8
def isUp (c : UInt8) : Bool := 65 ≤ c && c ≤ 90
def isLow (c : UInt8) : Bool := 97 ≤ c && c ≤ 122
def isDig (c : UInt8) : Bool := 48 ≤ c && c ≤ 57
def isLet (c : UInt8) : Bool := isLow c || isUp c || isDig c
def isSgn (c : UInt8) : Bool := c == 45 || c == 95 || c == 46
def small (c : UInt8) : UInt8 := if isUp c then c + 32 else c

/-- the program's loop: what was written, whether the last one was a sign; none: it may not be -/
def formGo (by_ : Bs) : Bs → Bool → Bs → Option (Bs × Bool)
  | acc, ls, [] => some (acc, ls)
  | acc, ls, c :: r =>
    if isLet c then formGo by_ (acc ++ ((if ls && !acc.isEmpty then by_ else []) ++ [small c])) false r
    else if isSgn c then (if acc.isEmpty then none else formGo by_ acc true r)
    else none
def formOut (by_ raw : Bs) : Bs × Bool :=
  if raw.length < 1 || raw.length > 64 then ([], false) else
  match formGo by_ [] true raw with
  | some (a, ls) => (a, !ls)
  | none => ([], false)

/-- the document's -/
def may (raw : Bs) : Bool :=
  !(raw.length < 1 || raw.length > 64) && (raw.head?.any isLet) && (raw.getLast?.any isLet) && raw.all fun c => isLet c || isSgn c
def formR (sign : Bs) : Bs → Bool → Bs → Bs
  | out, _, [] => out
  | out, run, c :: r => if !isLet c then formR sign out true r else formR sign (out ++ ((if run then sign else []) ++ [small c])) false r
/-- name.Norm, name.Squash -/
def norm (raw : Bs) : Option Bs := if (formOut [45] raw).2 then some (formOut [45] raw).1 else none
def squash (raw : Bs) : Option Bs := if (formOut [] raw).2 then some (formOut [] raw).1 else none
def nameIs (s : Bs) : Bool := norm s == some s
def holderL (s : Bs) : Bool := decide (1 ≤ s.length) && decide (s.length ≤ 64) && (s.head?.any isLow) && s.all fun c => isLow c || isDig c

theorem formGo_eq (by_ : Bs) (r : Bs) : ∀ (acc : Bs) (ls : Bool), acc ≠ [] →
    formGo by_ acc ls r = if r.all (fun c => isLet c || isSgn c) then some (formR by_ acc ls r, match r.getLast? with | none => ls | some c => !isLet c) else none := by
  induction r with
  | nil => intro acc ls _; simp [formGo, formR]
  | cons c r ih =>
    intro acc ls ha
    have hae : acc.isEmpty = false := by simpa using ha
    by_cases hl : isLet c = true
    · simp only [formGo, hl, if_true, hae, Bool.not_false, Bool.and_true, Bool.true_or, List.all_cons, Bool.true_and, formR, Bool.not_true, Bool.false_eq_true, if_false]
      rw [ih _ _ (by simp)]
      cases r with
      | nil => simp [formR, hl]
      | cons d r =>
        rw [List.getLast?_cons_cons]
        cases hg : (d :: r).getLast? with
        | none => simp at hg
        | some z => rfl
    · simp only [Bool.not_eq_true] at hl
      by_cases hs : isSgn c = true
      · simp only [formGo, hl, hs, hae, if_true, Bool.false_eq_true, if_false, List.all_cons, Bool.or_true, Bool.true_and, formR, Bool.not_false]
        rw [ih _ _ ha]
        cases r with
        | nil => simp [hl]
        | cons d r =>
          rw [List.getLast?_cons_cons]
          cases hg : (d :: r).getLast? with
          | none => simp at hg
          | some z => rfl
      · simp only [Bool.not_eq_true] at hs
        simp [formGo, hl, hs]
theorem formOut_eq (by_ raw : Bs) : (if (formOut by_ raw).2 then some (formOut by_ raw).1 else none) = if may raw then some (formR by_ [] false raw) else none := by
  unfold formOut may
  by_cases hn : (decide (raw.length < 1) || decide (raw.length > 64)) = true
  · rw [if_pos hn, hn]; rfl
  · simp only [Bool.not_eq_true] at hn
    cases raw with
    | nil => simp at hn
    | cons c r =>
      simp only [hn, Bool.false_eq_true, if_false, Bool.not_false, Bool.true_and, List.head?_cons, Option.any_some]
      by_cases hl : isLet c = true
      · simp only [formGo, hl, if_true, List.isEmpty_nil, Bool.not_true, Bool.and_false, Bool.false_eq_true, if_false, List.nil_append, Bool.true_and, List.all_cons, Bool.true_or, formR]
        rw [formGo_eq by_ r [small c] false (by simp)]
        cases r with
        | nil => simp [formR, hl]
        | cons d r =>
          rw [List.getLast?_cons_cons]
          cases hg : (d :: r).getLast? with
          | none => simp at hg
          | some z => by_cases hz : isLet z <;> by_cases ha : (d :: r).all (fun c => isLet c || isSgn c) <;> simp [hz, ha]
      · simp only [Bool.not_eq_true] at hl
        by_cases hs : isSgn c = true <;> simp [formGo, hl, hs]
theorem formGo_len (by_ : Bs) (hb : by_.length ≤ 1) (r : Bs) : ∀ (acc : Bs) (ls : Bool) (a : Bs) (l : Bool), formGo by_ acc ls r = some (a, l) → a.length ≤ acc.length + 2 * r.length := by
  induction r with
  | nil => intro acc ls a l h; simp only [formGo, Option.some.injEq, Prod.mk.injEq] at h; rw [← h.1]; omega
  | cons c r ih =>
    intro acc ls a l h
    simp only [formGo] at h
    split at h
    · have := ih _ _ _ _ h
      simp only [List.length_append, List.length_cons, List.length_nil] at this ⊢
      split at this <;> simp_all <;> omega
    · split at h
      · split at h
        · cases h
        · have := ih _ _ _ _ h; simp only [List.length_cons]; omega
      · cases h
theorem formOut_len (by_ raw : Bs) (hb : by_.length ≤ 1) : (formOut by_ raw).1.length ≤ 128 := by
  unfold formOut
  split
  · simp
  · rename_i hn
    simp only [Bool.or_eq_true, decide_eq_true_eq, not_or] at hn
    cases h : formGo by_ [] true raw with
    | none => simp
    | some p => obtain ⟨a, l⟩ := p; have := formGo_len by_ hb raw _ _ _ _ h; simp at this ⊢; omega
end Yk
namespace Yk
def blt : Bs → Bs → Bool
  | _, [] => false
  | [], _ :: _ => true
  | a :: x, b :: y => a < b || (a == b && blt x y)
def cmpI (a b : Int) : Int := if a < b then -1 else if b < a then 1 else 0
def cmpB (a b : Bs) : Int := if blt a b then -1 else if blt b a then 1 else 0
def digitsL (l : Bs) : Bool := l.all isDig && !l.isEmpty
def plainL (l : Bs) : Bool := l.length == 1 || l.head? != some 48
def idC (c : UInt8) : Bool := isDig c || isLow c || c == 45
def identL (l : Bs) : Bool := !(l.isEmpty || decide (16 < l.length)) && l.all idC && (!digitsL l || plainL l)
def valL (l : Bs) : Nat := l.foldl (fun n c => 10 * n + (c.toNat - 48)) 0
structure Ver where
  maj : Int
  min : Int
  pat : Int
  pre : List Bs
  deriving DecidableEq
def Ver.zero : Ver := ⟨0, 0, 0, []⟩
def verMay (v : Ver) : Bool := decide (v.maj ≤ 2147483647) && decide (v.min ≤ 2147483647) && decide (v.pat ≤ 2147483647) && decide (v.pre.length ≤ 8) && v.pre.all identL
def number? (l : Bs) : Option Int :=
  if digitsL l && plainL l && decide (l.length ≤ 10) && decide (valL l ≤ 2147483647) then some (valL l) else none
def cut1 (c : UInt8) : Bs → Option (Bs × Bs)
  | [] => none
  | x :: r => if x == c then some ([], r) else (cut1 c r).map fun p => (x :: p.1, p.2)
def splitAt1 (c : UInt8) : Bs → List Bs
  | [] => [[]]
  | x :: r => if x == c then [] :: splitAt1 c r else match splitAt1 c r with | [] => [[x]] | h :: t => (x :: h) :: t
def headOf (s : Bs) : Bs := match cut1 45 s with | none => s | some p => p.1
def preOf (s : Bs) : List Bs := match cut1 45 s with | none => [] | some p => splitAt1 46 p.2
def tailOf (s : Bs) : Bs := match cut1 45 s with | none => [] | some p => p.2
def dashed (s : Bs) : Bool := (cut1 45 s).isSome
def verThree (l : List Bs) : Option (Int × Int × Int) := match l with
  | [a, b, c] => match number? a, number? b, number? c with
    | some x, some y, some z => some (x, y, z)
    | _, _, _ => none
  | _ => none
def verRead (s : Bs) : Option Ver :=
  if 128 < s.length then none else
  match verThree (splitAt1 46 (headOf s)) with
  | some (x, y, z) => if verMay ⟨x, y, z, preOf s⟩ then some ⟨x, y, z, preOf s⟩ else none
  | none => none
def ordI (a b : Bs) : Int :=
  if digitsL a && !digitsL b then -1 else if !digitsL a && digitsL b then 1
  else if digitsL a && digitsL b && cmpI a.length b.length != 0 then cmpI a.length b.length else cmpB a b
def cmpPre : List Bs → List Bs → Int
  | [], [] => 0
  | [], _ :: _ => -1
  | _ :: _, [] => 1
  | a :: x, b :: y => if ordI a b != 0 then ordI a b else cmpPre x y
def verCmp (a b : Ver) : Int :=
  if cmpI a.maj b.maj != 0 then cmpI a.maj b.maj else if cmpI a.min b.min != 0 then cmpI a.min b.min
  else if cmpI a.pat b.pat != 0 then cmpI a.pat b.pat
  else if a.pre.length = 0 ∨ b.pre.length = 0 then cmpI b.pre.length a.pre.length
  else cmpPre a.pre b.pre
def verOrder (a b : Bs) : Int := match verRead a, verRead b with
  | some v, some w => verCmp v w
  | _, _ => 0

/-- version.number, both results -/
def numOut (l : Bs) : Int × Bool := if digitsL l && plainL l && decide (l.length ≤ 10) then ((valL l : Int) % 4294967296, decide (valL l ≤ 2147483647)) else (0, false)
theorem number?_eq (l : Bs) : number? l = if (numOut l).2 then some (numOut l).1 else none := by
  unfold number? numOut
  by_cases h : (digitsL l && plainL l && decide (l.length ≤ 10)) = true
  · rw [h, if_pos rfl]
    by_cases hv : valL l ≤ 2147483647
    · simp only [hv, decide_true, Bool.and_true, if_true]; congr 1; omega
    · simp [hv]
  · simp only [Bool.not_eq_true] at h
    rw [h]; simp
theorem splitAt1_ne (c : UInt8) (l : Bs) : splitAt1 c l ≠ [] := by
  cases l with
  | nil => simp [splitAt1]
  | cons x r =>
    simp only [splitAt1]; split
    · simp
    · split <;> simp
end Yk
