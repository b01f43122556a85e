/- The order of versions is a total one; a version's text is what was read. No condition of its own. Spans of versions in plain Lean: intervals, join, meet, reading, text. No condition of its own. -/
import Derived.Test.YtggdgjifhikmiaaGreatDoorSpecSplit
namespace Yk
/-- a comparison that is a total preorder -/
structure Cmp3 {α : Type} (c : α → α → Int) : Prop where
  refl : ∀ a, c a a = 0
  anti : ∀ a b, c b a = - c a b
  trans : ∀ a b d, c a b ≤ 0 → c b d ≤ 0 → c a d ≤ 0
theorem Cmp3.lt_le {α : Type} {c : α → α → Int} (h : Cmp3 c) {a b d : α} (h1 : c a b < 0) (h2 : c b d ≤ 0) : c a d < 0 := by
  by_cases q : c a d < 0
  · exact q
  · have e1 := h.anti a d; have e2 := h.anti a b; have := h.trans b d a h2 (by omega); omega
theorem Cmp3.le_lt {α : Type} {c : α → α → Int} (h : Cmp3 c) {a b d : α} (h1 : c a b ≤ 0) (h2 : c b d < 0) : c a d < 0 := by
  by_cases q : c a d < 0
  · exact q
  · have e1 := h.anti a d; have e2 := h.anti b d; have := h.trans d a b (by omega) h1; omega
theorem Cmp3.eq_trans {α : Type} {c : α → α → Int} (h : Cmp3 c) {a b d : α} (h1 : c a b = 0) (h2 : c b d = 0) : c a d = 0 := by
  have e1 := h.anti a d; have e2 := h.anti a b; have e3 := h.anti b d
  have := h.trans a b d (by omega) (by omega); have := h.trans d b a (by omega) (by omega); omega
theorem Cmp3.eq_left {α : Type} {c : α → α → Int} (h : Cmp3 c) {a b d : α} (h1 : c a b = 0) : (c a d < 0 ↔ c b d < 0) := by
  have e2 := h.anti a b
  exact ⟨fun q => h.le_lt (by omega) q, fun q => h.le_lt (by omega) q⟩
theorem cmpI_3 : Cmp3 cmpI := ⟨fun a => by simp [cmpI], fun a b => by unfold cmpI; split <;> split <;> (try split) <;> omega, fun a b d => by unfold cmpI; split <;> split <;> (try split) <;> (try split) <;> (try split) <;> omega⟩
theorem cmpI_eq {a b : Int} (h : cmpI a b = 0) : a = b := by unfold cmpI at h; split at h <;> (try split at h) <;> omega
/-- one comparison behind another one -/
def lexC {α : Type} (c d : α → α → Int) (x y : α) : Int := if c x y ≠ 0 then c x y else d x y
theorem lexC_3 {α : Type} {c d : α → α → Int} (hc : Cmp3 c) (hd : Cmp3 d) : Cmp3 (lexC c d) := by
  refine ⟨fun a => by simp [lexC, hc.refl, hd.refl], fun a b => ?_, fun a b e h1 h2 => ?_⟩
  · have e1 := hc.anti a b; have e2 := hd.anti a b
    unfold lexC
    by_cases h : c a b = 0
    · rw [if_neg (by omega), if_neg (by omega)]; exact e2
    · rw [if_pos (by omega), if_pos (by omega)]; exact e1
  · unfold lexC at h1 h2 ⊢
    by_cases q1 : c a b = 0
    · rw [if_neg (by omega)] at h1
      by_cases q2 : c b e = 0
      · rw [if_neg (by omega)] at h2
        have := hc.eq_trans q1 q2
        rw [if_neg (by omega)]
        exact hd.trans a b e h1 h2
      · rw [if_pos q2] at h2
        have := hc.le_lt (a := a) (b := b) (d := e) (by omega) (by omega)
        rw [if_pos (by omega)]; omega
    · rw [if_pos q1] at h1
      have h2' : c b e ≤ 0 := by
        by_cases q2 : c b e = 0
        · omega
        · rw [if_pos q2] at h2; exact h2
      have := hc.lt_le (a := a) (b := b) (d := e) (by omega) h2'
      rw [if_pos (by omega)]; omega
theorem onC_3 {α β : Type} {c : β → β → Int} (hc : Cmp3 c) (f : α → β) : Cmp3 (fun x y => c (f x) (f y)) :=
  ⟨fun a => hc.refl _, fun a b => hc.anti _ _, fun a b d => hc.trans _ _ _⟩
theorem lexC_zero {α : Type} {c d : α → α → Int} {x y : α} (h : lexC c d x y = 0) : c x y = 0 ∧ d x y = 0 := by
  unfold lexC at h
  by_cases q : c x y = 0
  · rw [if_neg (by omega)] at h; exact ⟨q, h⟩
  · rw [if_pos q] at h; exact absurd h q
/-- lists, element by element, the shorter one first -/
def listC {α : Type} (c : α → α → Int) : List α → List α → Int
  | [], [] => 0
  | [], _ :: _ => -1
  | _ :: _, [] => 1
  | a :: x, b :: y => if c a b ≠ 0 then c a b else listC c x y
theorem listC_3 {α : Type} {c : α → α → Int} (hc : Cmp3 c) : Cmp3 (listC c) := by
  refine ⟨fun a => ?_, fun a => ?_, fun a => ?_⟩
  · induction a with
    | nil => rfl
    | cons a x ih => simp [listC, hc.refl, ih]
  · induction a with
    | nil => intro b; cases b <;> simp [listC]
    | cons a x ih =>
      intro b
      cases b with
      | nil => simp [listC]
      | cons b y =>
        have e1 := hc.anti a b
        simp only [listC]
        by_cases q : c a b = 0
        · rw [if_neg (by omega), if_neg (by omega)]; exact ih y
        · rw [if_pos (by omega), if_pos (by omega)]; exact e1
  · induction a with
    | nil => intro b d h1 h2; cases d <;> simp [listC]
    | cons a x ih =>
      intro b d h1 h2
      cases b with
      | nil => simp [listC] at h1
      | cons b y =>
        cases d with
        | nil => simp [listC] at h2
        | cons d z =>
          simp only [listC] at h1 h2 ⊢
          by_cases q1 : c a b = 0
          · rw [if_neg (by omega)] at h1
            by_cases q2 : c b d = 0
            · rw [if_neg (by omega)] at h2
              have := hc.eq_trans q1 q2
              rw [if_neg (by omega)]
              exact ih y z h1 h2
            · rw [if_pos q2] at h2
              have := hc.le_lt (a := a) (b := b) (d := d) (by omega) (by omega)
              rw [if_pos (by omega)]; omega
          · rw [if_pos q1] at h1
            have h2' : c b d ≤ 0 := by
              by_cases q2 : c b d = 0
              · omega
              · rw [if_pos q2] at h2; exact h2
            have := hc.lt_le (a := a) (b := b) (d := d) (by omega) h2'
            rw [if_pos (by omega)]; omega
theorem listC_eq {α : Type} {c : α → α → Int} (he : ∀ a b, c a b = 0 → a = b) : ∀ {x y : List α}, listC c x y = 0 → x = y
  | [], [], _ => rfl
  | [], _ :: _, h => by simp [listC] at h
  | _ :: _, [], h => by simp [listC] at h
  | a :: x, b :: y, h => by
    simp only [listC] at h
    by_cases q : c a b = 0
    · rw [if_neg (by omega)] at h
      rw [he a b q, listC_eq he h]
    · rw [if_pos q] at h; exact absurd h q
def cmpU (a b : UInt8) : Int := cmpI a.toNat b.toNat
theorem cmpU_3 : Cmp3 cmpU := onC_3 cmpI_3 (fun a : UInt8 => (a.toNat : Int))
theorem cmpU_eq (a b : UInt8) (h : cmpU a b = 0) : a = b := by
  have := cmpI_eq h
  exact UInt8.toNat_inj.1 (by omega)
theorem cmpB_list : ∀ x y : Bs, cmpB x y = listC cmpU x y
  | [], [] => by simp [cmpB, blt, listC]
  | [], b :: y => by simp [cmpB, blt, listC]
  | a :: x, [] => by simp [cmpB, blt, listC]
  | a :: x, b :: y => by
    have ih := cmpB_list x y
    unfold cmpB at ih ⊢
    simp only [blt, listC, ← ih]
    rcases Nat.lt_trichotomy a.toNat b.toNat with h | h | h
    · have h1 : a < b := UInt8.lt_iff_toNat_lt.2 h
      have h2 : cmpU a b = -1 := by unfold cmpU cmpI; rw [if_pos (by omega)]
      simp [h1, h2]
    · have h1 : a = b := UInt8.toNat_inj.1 h
      subst h1
      have h2 : cmpU a a = 0 := cmpU_3.refl a
      have h3 : ¬ a < a := fun q => by have := UInt8.lt_iff_toNat_lt.1 q; omega
      simp [h2, h3]
    · have h1 : b < a := UInt8.lt_iff_toNat_lt.2 h
      have h3 : ¬ a < b := fun q => by have := UInt8.lt_iff_toNat_lt.1 q; omega
      have h4 : ¬ a = b := fun q => by subst q; omega
      have h5 : ¬ b = a := fun q => h4 q.symm
      have h2 : cmpU a b = 1 := by unfold cmpU cmpI; rw [if_neg (by omega), if_pos (by omega)]
      simp [h1, h2, h3, h4]
theorem cmpB_3 : Cmp3 cmpB := by
  have : cmpB = listC cmpU := by funext x y; exact cmpB_list x y
  rw [this]; exact listC_3 cmpU_3
theorem cmpB_eq {x y : Bs} (h : cmpB x y = 0) : x = y := listC_eq cmpU_eq (by rw [← cmpB_list]; exact h)
theorem blt_iff {x y : Bs} : blt x y = true ↔ cmpB x y < 0 := by
  unfold cmpB
  split
  · simp_all
  · split <;> simp_all
def idKind (l : Bs) : Int := if digitsL l then 0 else 1
def idLen (l : Bs) : Int := if digitsL l then l.length else 0
theorem ordI_lex (a b : Bs) : ordI a b = lexC (fun x y => cmpI (idKind x) (idKind y)) (lexC (fun x y => cmpI (idLen x) (idLen y)) cmpB) a b := by
  unfold ordI lexC idKind idLen
  cases ha : digitsL a <;> cases hb : digitsL b <;> simp [cmpI, ha, hb]
theorem ordI_3 : Cmp3 ordI := by
  have : ordI = lexC (fun x y => cmpI (idKind x) (idKind y)) (lexC (fun x y => cmpI (idLen x) (idLen y)) cmpB) := by funext x y; exact ordI_lex x y
  rw [this]; exact lexC_3 (onC_3 cmpI_3 idKind) (lexC_3 (onC_3 cmpI_3 idLen) cmpB_3)
theorem ordI_eq (a b : Bs) (h : ordI a b = 0) : a = b := by
  rw [ordI_lex] at h
  exact cmpB_eq (lexC_zero (lexC_zero h).2).2
theorem cmpPre_list : ∀ x y : List Bs, cmpPre x y = listC ordI x y
  | [], [] => rfl
  | [], _ :: _ => rfl
  | _ :: _, [] => rfl
  | a :: x, b :: y => by
    simp only [cmpPre, listC, cmpPre_list x y]
    by_cases h : ordI a b = 0 <;> simp [h]
def preFlag (v : Ver) : Int := if v.pre.length = 0 then 1 else 0
theorem verCmp_lex (a b : Ver) : verCmp a b = lexC (fun x y => cmpI x.maj y.maj) (lexC (fun x y => cmpI x.min y.min) (lexC (fun x y => cmpI x.pat y.pat) (lexC (fun x y => cmpI (preFlag x) (preFlag y)) (fun x y => listC ordI x.pre y.pre)))) a b := by
  unfold verCmp lexC preFlag
  rw [cmpPre_list]
  by_cases h1 : cmpI a.maj b.maj = 0 <;> by_cases h2 : cmpI a.min b.min = 0 <;> by_cases h3 : cmpI a.pat b.pat = 0 <;> simp only [h1, h2, h3, bne_self_eq_false, Bool.false_eq_true, if_false, ne_eq, not_true_eq_false, not_false_eq_true, if_true, bne_iff_ne]
  obtain ⟨x1, x2, x3, xp⟩ := a
  obtain ⟨y1, y2, y3, yp⟩ := b
  cases xp <;> cases yp <;> simp [cmpI, listC] <;> omega
theorem verCmp_3 : Cmp3 verCmp := by
  have : verCmp = lexC (fun x y => cmpI x.maj y.maj) (lexC (fun x y => cmpI x.min y.min) (lexC (fun x y => cmpI x.pat y.pat) (lexC (fun x y => cmpI (preFlag x) (preFlag y)) (fun x y => listC ordI x.pre y.pre)))) := by funext x y; exact verCmp_lex x y
  rw [this]
  exact lexC_3 (onC_3 cmpI_3 (fun v : Ver => v.maj)) (lexC_3 (onC_3 cmpI_3 (fun v : Ver => v.min)) (lexC_3 (onC_3 cmpI_3 (fun v : Ver => v.pat)) (lexC_3 (onC_3 cmpI_3 preFlag) (onC_3 (listC_3 ordI_3) (fun v : Ver => v.pre)))))
theorem verCmp_eq {a b : Ver} (h : verCmp a b = 0) : a = b := by
  rw [verCmp_lex] at h
  obtain ⟨h1, h⟩ := lexC_zero h
  obtain ⟨h2, h⟩ := lexC_zero h
  obtain ⟨h3, h⟩ := lexC_zero h
  obtain ⟨_, h⟩ := lexC_zero h
  have e1 := cmpI_eq h1; have e2 := cmpI_eq h2; have e3 := cmpI_eq h3
  have e4 := listC_eq ordI_eq h
  cases a; cases b
  simp only [Ver.mk.injEq]
  exact ⟨e1, e2, e3, e4⟩
/-- decimal digits -/
def decF : Nat → Nat → Bs
  | 0, _ => []
  | f + 1, n => if n < 10 then [UInt8.ofNat (48 + n)] else decF f (n / 10) ++ [UInt8.ofNat (48 + n % 10)]
def decL (n : Nat) : Bs := decF (n + 1) n
theorem decF_enough : ∀ (f g n : Nat), n < f → n < g → decF f n = decF g n
  | 0, _, _, h, _ => by omega
  | _, 0, _, _, h => by omega
  | f + 1, g + 1, n, h1, h2 => by
    unfold decF
    split
    · rfl
    · rw [decF_enough f g (n / 10) (by omega) (by omega)]
theorem decL_step (n : Nat) : decL n = if n < 10 then [UInt8.ofNat (48 + n)] else decL (n / 10) ++ [UInt8.ofNat (48 + n % 10)] := by
  unfold decL
  rw [show decF (n + 1) n = if n < 10 then [UInt8.ofNat (48 + n)] else decF n (n / 10) ++ [UInt8.ofNat (48 + n % 10)] from rfl]
  split
  · rfl
  · rw [decF_enough n (n / 10 + 1) (n / 10) (by omega) (by omega)]
theorem revInd {P : Bs → Prop} (h0 : P []) (h1 : ∀ l c, P l → P (l ++ [c])) (l : Bs) : P l := by
  rw [← List.reverse_reverse l]
  generalize l.reverse = r
  induction r with
  | nil => exact h0
  | cons c r ih => rw [List.reverse_cons]; exact h1 _ c ih
theorem valL_snoc (l : Bs) (c : UInt8) : valL (l ++ [c]) = 10 * valL l + (c.toNat - 48) := by simp [valL, List.foldl_append]
theorem dig_val {c : UInt8} (h : isDig c = true) : 48 ≤ c.toNat ∧ c.toNat ≤ 57 := by
  simp only [isDig, Bool.and_eq_true, decide_eq_true_eq] at h
  have h1 := UInt8.le_iff_toNat_le.1 h.1; have h2 := UInt8.le_iff_toNat_le.1 h.2
  exact ⟨h1, h2⟩
theorem dig_back {c : UInt8} (h : isDig c = true) : UInt8.ofNat (48 + (c.toNat - 48)) = c := by
  have := dig_val h
  rw [show 48 + (c.toNat - 48) = c.toNat by omega]; simp
theorem valL_pos : ∀ (l : Bs), l.all isDig = true → l ≠ [] → l.head? ≠ some 48 → 1 ≤ valL l := by
  refine revInd ?_ ?_
  · intro _ h; exact absurd rfl h
  · intro l c ih
    intro hd hne hh
    rw [List.all_append] at hd
    simp only [List.all_cons, List.all_nil, Bool.and_true, Bool.and_eq_true] at hd
    rw [valL_snoc]
    cases l with
    | nil =>
      have := dig_val hd.2
      simp only [List.nil_append, List.head?_cons, ne_eq, Option.some.injEq] at hh
      have h48 : c.toNat ≠ 48 := fun q => hh (UInt8.toNat_inj.1 (by rw [q]; rfl))
      omega
    | cons a r =>
      have := ih hd.1 (by simp) (by simpa using hh)
      omega
theorem dec_val : ∀ (l : Bs), l.all isDig = true → l ≠ [] → plainL l = true → decL (valL l) = l := by
  refine revInd ?_ ?_
  · intro _ h; exact absurd rfl h
  · intro l c ih
    intro hd hne hp
    rw [List.all_append] at hd
    simp only [List.all_cons, List.all_nil, Bool.and_true, Bool.and_eq_true] at hd
    have hc := dig_val hd.2
    rw [valL_snoc, decL_step]
    cases l with
    | nil =>
      have e0 : valL [] = 0 := rfl
      rw [e0, if_pos (by omega)]
      simp [dig_back hd.2]
    | cons a r =>
      have hh : (a :: r).head? ≠ some 48 := by
        unfold plainL at hp
        simp only [List.length_append, List.length_cons, List.length_nil, List.cons_append, List.head?_cons, Bool.or_eq_true, beq_iff_eq, bne_iff_ne, ne_eq] at hp
        rcases hp with hp | hp
        · omega
        · simpa using hp
      have h1 := valL_pos (a :: r) hd.1 (by simp) hh
      rw [if_neg (by omega), show (10 * valL (a :: r) + (c.toNat - 48)) / 10 = valL (a :: r) by omega, show (10 * valL (a :: r) + (c.toNat - 48)) % 10 = c.toNat - 48 by omega, dig_back hd.2]
      rw [ih hd.1 (by simp) (by unfold plainL; simp only [Bool.or_eq_true, bne_iff_ne]; exact .inr hh)]
theorem number?_dec {l : Bs} {n : Int} (h : number? l = some n) : 0 ≤ n ∧ n ≤ 2147483647 ∧ decL n.toNat = l := by
  unfold number? at h
  split at h
  · rename_i hc
    simp only [Bool.and_eq_true, decide_eq_true_eq] at hc
    obtain ⟨⟨⟨h1, h2⟩, h3⟩, h4⟩ := hc
    cases h
    unfold digitsL at h1
    simp only [Bool.and_eq_true, Bool.not_eq_true', List.isEmpty_eq_false_iff] at h1
    exact ⟨by omega, by omega, by simpa using dec_val l h1.1 h1.2 h2⟩
  · cases h
/-- texts with a sign between -/
def joinB (c : UInt8) : List Bs → Bs
  | [] => []
  | [x] => x
  | x :: r => x ++ c :: joinB c r
theorem joinB_split (c : UInt8) : ∀ l : Bs, joinB c (splitAt1 c l) = l
  | [] => rfl
  | x :: r => by
    have ih := joinB_split c r
    have hne := splitAt1_ne c r
    unfold splitAt1
    split
    · rename_i h
      have : x = c := by simpa using h
      subst this
      cases hs : splitAt1 x r with
      | nil => exact absurd hs hne
      | cons a t => rw [hs] at ih; simp [joinB, ih]
    · cases hs : splitAt1 c r with
      | nil => exact absurd hs hne
      | cons a t =>
        rw [hs] at ih
        cases t with
        | nil => simp only [joinB] at ih ⊢; rw [ih]
        | cons b t => simp only [joinB] at ih ⊢; rw [← ih]; rfl
def verText (v : Ver) : Bs := decL v.maj.toNat ++ 46 :: (decL v.min.toNat ++ 46 :: (decL v.pat.toNat ++ (if v.pre.isEmpty then [] else 45 :: joinB 46 v.pre)))
theorem verRead_text {s : Bs} {v : Ver} (h : verRead s = some v) : s = verText v ∧ s.length ≤ 128 ∧ verMay v = true ∧ 0 ≤ v.maj ∧ 0 ≤ v.min ∧ 0 ≤ v.pat := by
  unfold verRead at h
  split at h
  · cases h
  · rename_i hl
    split at h
    · rename_i x y z ht
      split at h
      · rename_i hm
        cases h
        unfold verThree at ht
        split at ht
        · rename_i a b c hs
          split at ht
          · rename_i x' y' z' h1 h2 h3
            cases ht
            have d1 := number?_dec h1; have d2 := number?_dec h2; have d3 := number?_dec h3
            refine ⟨?_, by omega, hm, d1.1, d2.1, d3.1⟩
            have hj := joinB_split 46 (headOf s)
            rw [hs] at hj
            simp only [joinB] at hj
            unfold verText
            rw [d1.2.2, d2.2.2, d3.2.2]
            cases hc : cut1 45 s with
            | none =>
              have e1 : headOf s = s := by unfold headOf; rw [hc]
              have e2 : preOf s = [] := by unfold preOf; rw [hc]
              rw [e1] at hj
              simp only [e2, List.isEmpty_nil, if_true, List.append_nil]
              exact hj.symm
            | some p =>
              obtain ⟨p1, p2⟩ := p
              have e0 := (cut1_some hc).1
              have e1 : headOf s = p1 := by unfold headOf; rw [hc]
              have e2 : preOf s = splitAt1 46 p2 := by unfold preOf; rw [hc]
              have e3 : (splitAt1 46 p2).isEmpty = false := by simpa using splitAt1_ne 46 p2
              rw [e1] at hj
              simp only [e2, e3, Bool.false_eq_true, if_false, joinB_split]
              rw [e0, ← hj]; simp
          · cases ht
        · cases ht
      · cases h
    · cases h
theorem verRead_inj {a b : Bs} {v : Ver} (h1 : verRead a = some v) (h2 : verRead b = some v) : a = b := by rw [(verRead_text h1).1, (verRead_text h2).1]
end Yk
namespace Yk
structure Itv where
  lo : Ver
  lop : Bool
  hi : Ver
  hop : Bool
  endl : Bool
  deriving DecidableEq
structure Edge where
  at_ : Ver
  beh : Bool
  inf : Bool
  deriving DecidableEq
def ordV (a b : Ver) : Int := if verMay a && verMay b then verCmp a b else 0
def lowE (x : Itv) : Edge := ⟨x.lo, x.lop, false⟩
def highE (x : Itv) : Edge := ⟨x.hi, !x.hop, x.endl⟩
def beforeE (a b : Edge) : Int :=
  if a.inf && b.inf then 0 else if a.inf then 1 else if b.inf then -1
  else if ordV a.at_ b.at_ ≠ 0 then ordV a.at_ b.at_ else if a.beh == b.beh then 0 else if b.beh then -1 else 1
def betweenE (a b : Edge) : Itv := ⟨a.at_, a.beh, if b.inf then Ver.zero else b.at_, if b.inf then false else !b.beh, b.inf⟩
def bottomV : Ver := ⟨0, 0, 0, [[48]]⟩
def bottomE : Edge := ⟨bottomV, false, false⟩
def topE : Edge := ⟨Ver.zero, false, true⟩
/-- a version that may be, its numbers being numbers -/
structure VerOk (v : Ver) : Prop where
  may : verMay v = true
  maj : 0 ≤ v.maj
  min : 0 ≤ v.min
  pat : 0 ≤ v.pat
structure ItvOk (x : Itv) : Prop where
  lo : VerOk x.lo
  hi : VerOk x.hi
  en : x.endl = true → x.hi = Ver.zero ∧ x.hop = false
structure EdgeOk (e : Edge) : Prop where
  at_ : VerOk e.at_
theorem verOk_zero : VerOk Ver.zero := ⟨by decide, by decide, by decide, by decide⟩
theorem verOk_bottom : VerOk bottomV := ⟨by decide, by decide, by decide, by decide⟩
theorem verOk_read {s : Bs} {v : Ver} (h : verRead s = some v) : VerOk v := by
  obtain ⟨_, _, h1, h2, h3, h4⟩ := verRead_text h
  exact ⟨h1, h2, h3, h4⟩
theorem ItvOk.low {x : Itv} (h : ItvOk x) : EdgeOk (lowE x) := ⟨h.lo⟩
theorem ItvOk.high {x : Itv} (h : ItvOk x) : EdgeOk (highE x) := ⟨h.hi⟩
theorem edgeOk_bottom : EdgeOk bottomE := ⟨verOk_bottom⟩
theorem edgeOk_top : EdgeOk topE := ⟨verOk_zero⟩
theorem itvOk_between {a b : Edge} (ha : EdgeOk a) (hb : EdgeOk b) : ItvOk (betweenE a b) := by
  refine ⟨ha.at_, ?_, fun h => ?_⟩
  · show VerOk (if b.inf then Ver.zero else b.at_)
    split
    · exact verOk_zero
    · exact hb.at_
  · have h' : b.inf = true := h
    simp [betweenE, h']
theorem ordV_ok {a b : Ver} (ha : VerOk a) (hb : VerOk b) : ordV a b = verCmp a b := by unfold ordV; rw [ha.may, hb.may]; rfl
def insRev (x : Itv) : List Itv → List Itv
  | [] => [x]
  | y :: r => if beforeE (lowE x) (lowE y) < 0 then y :: insRev x r else x :: y :: r
def sortRev (l : List Itv) : List Itv := l.foldl (fun acc x => insRev x acc) []
def nonE (x : Itv) : Bool := decide (beforeE (lowE x) (highE x) < 0)
def mergeStep (out : List Itv) (x : Itv) : List Itv := match out with
  | [] => [x]
  | y :: r => if 0 ≤ beforeE (highE y) (lowE x) then (if beforeE (highE y) (highE x) < 0 then betweenE (lowE y) (highE x) :: r else y :: r) else x :: y :: r
def joinS (l : List Itv) : List Itv := ((sortRev (l.filter nonE)).reverse.foldl mergeStep []).reverse
def meetOne (x y : Itv) : Itv := betweenE (if beforeE (lowE x) (lowE y) < 0 then lowE y else lowE x) (if beforeE (highE y) (highE x) < 0 then highE y else highE x)
def meetS (a b : List Itv) : List Itv := joinS (a.flatMap fun x => b.map (meetOne x))
def fromS (v : Ver) (op : Bool) : List Itv := [betweenE ⟨v, op, false⟩ topE]
def belowS (v : Ver) (op : Bool) : List Itv := joinS [betweenE bottomE ⟨v, !op, false⟩]
def nextV (v : Ver) (part : Nat) : Option Ver :=
  if part = 0 then (if v.maj = 2147483647 then none else some ⟨v.maj + 1, 0, 0, []⟩)
  else if part = 1 then (if v.min = 2147483647 then none else some ⟨v.maj, v.min + 1, 0, []⟩)
  else (if v.pat = 2147483647 then none else some ⟨v.maj, v.min, v.pat + 1, []⟩)
def leastV (v : Ver) : Ver := ⟨v.maj, v.min, v.pat, [[48]]⟩
def uptoS (v : Ver) (part : Nat) : List Itv := match nextV v part with
  | none => fromS v false
  | some n => meetS (fromS v false) (belowS (leastV n) true)
def isOp (c : UInt8) : Bool := c == 60 || c == 62 || c == 61 || c == 126 || c == 94
def caretPart (v : Ver) : Nat := if 0 < v.maj then 0 else if 0 < v.min then 1 else 2
def opS (ops : Bs) (v : Ver) : Option (List Itv) :=
  if ops = [] ∨ ops = [61] then some (meetS (fromS v false) (belowS v false))
  else if ops = [60] then some (belowS v true)
  else if ops = [60, 61] then some (belowS v false)
  else if ops = [62] then some (fromS v true)
  else if ops = [62, 61] then some (fromS v false)
  else if ops = [126] then some (uptoS v 1)
  else if ops = [94] then some (uptoS v (caretPart v))
  else none
def comparedS (s : Bs) : Option (List Itv) := match verRead (s.dropWhile isOp) with
  | none => none
  | some v => opS (s.takeWhile isOp) v
def everyS : List Itv := [betweenE bottomE topE]
def altGo : List Itv → List Bs → Option (List Itv)
  | all, [] => some all
  | all, c :: r => match comparedS c with
    | none => none
    | some x => altGo (meetS all x) r
def altS (s : Bs) : Option (List Itv) :=
  if s = [42] then some everyS else if s = [33] then some []
  else if 16 < (splitAt1 32 s).length then none else altGo everyS (splitAt1 32 s)
def parts4 : Bs → Bs → List Bs
  | acc, 32 :: 124 :: 124 :: 32 :: r => acc :: parts4 [] r
  | acc, x :: r => parts4 (acc ++ [x]) r
  | acc, [] => [acc]
def allAlts : List Bs → Option (List Itv)
  | [] => some []
  | a :: r => match altS a with
    | none => none
    | some x => match allAlts r with
      | none => none
      | some y => some (x ++ y)
def readS (s : Bs) : Option (List Itv) :=
  if 128 < s.length then none
  else if 16 < (parts4 [] s).length then none
  else match allAlts (parts4 [] s) with
    | none => none
    | some l => if 16 < (joinS l).length then none else some (joinS l)
def leastI (x : Itv) : Bool := decide (beforeE (lowE x) bottomE = 0)
def wordsS (x : Itv) : Bs :=
  if leastI x && x.endl then [42]
  else if !x.endl && decide (ordV x.lo x.hi = 0) then 61 :: verText x.lo
  else (if leastI x then [] else (if x.lop then [62] else [62, 61]) ++ verText x.lo) ++ (if !leastI x && !x.endl then [32] else []) ++ (if x.endl then [] else (if x.hop then [60] else [60, 61]) ++ verText x.hi)
def rightI (x : Itv) : Bool := verMay x.lo && verMay x.hi && (!x.endl || (!x.hop && decide (x.hi.maj = 0) && decide (x.hi.min = 0) && decide (x.hi.pat = 0) && x.hi.pre.isEmpty))
def apartS : List Itv → Bool
  | a :: b :: r => decide (beforeE (highE a) (lowE b) < 0) && apartS (b :: r)
  | _ => true
def spanMayS (l : List Itv) : Bool := decide (l.length ≤ 16) && l.all (fun x => rightI x && nonE x) && apartS l
def joinW (sep : Bs) : List Bs → Bs
  | [] => []
  | [x] => x
  | x :: r => x ++ sep ++ joinW sep r
def textS (l : List Itv) : Option Bs :=
  if !spanMayS l then none else if l = [] then some [33]
  else if 128 < (joinW [32, 124, 124, 32] (l.map wordsS)).length then none else some (joinW [32, 124, 124, 32] (l.map wordsS))
def formS (s : Bs) : Option Bs := match readS s with
  | none => none
  | some l => textS l
def spanIs (s : Bs) : Bool := match formS s with
  | none => false
  | some t => t == s
/-! ### everything that is read is in order -/
theorem insRev_ok {x : Itv} (hx : ItvOk x) : ∀ {l : List Itv}, (∀ y ∈ l, ItvOk y) → ∀ y ∈ insRev x l, ItvOk y
  | [], _, y, h => by simp only [insRev, List.mem_singleton] at h; rw [h]; exact hx
  | a :: r, hl, y, h => by
    unfold insRev at h
    split at h
    · rcases List.mem_cons.1 h with rfl | h
      · exact hl _ (.head _)
      · exact insRev_ok hx (fun z hz => hl z (.tail _ hz)) y h
    · rcases List.mem_cons.1 h with rfl | h
      · exact hx
      · exact hl y h
theorem insRev_length (x : Itv) : ∀ l : List Itv, (insRev x l).length = l.length + 1
  | [] => rfl
  | a :: r => by
    unfold insRev; split
    · simp [insRev_length x r]
    · simp
theorem foldl_ok {α : Type} (P : List Itv → Prop) (Q : α → Prop) (f : List Itv → α → List Itv) (hf : ∀ acc x, P acc → Q x → P (f acc x)) : ∀ (l : List α) (acc : List Itv), P acc → (∀ x ∈ l, Q x) → P (l.foldl f acc)
  | [], acc, h, _ => h
  | a :: r, acc, h, hq => foldl_ok P Q f hf r (f acc a) (hf acc a h (hq a (.head _))) (fun x hx => hq x (.tail _ hx))
theorem mergeStep_ok {out : List Itv} {x : Itv} (ho : ∀ y ∈ out, ItvOk y) (hx : ItvOk x) : ∀ y ∈ mergeStep out x, ItvOk y := by
  intro y h
  unfold mergeStep at h
  cases out with
  | nil => simp only [List.mem_singleton] at h; rw [h]; exact hx
  | cons a r =>
    simp only at h
    split at h
    · split at h
      · rcases List.mem_cons.1 h with rfl | h
        · exact itvOk_between (ho a (.head _)).low hx.high
        · exact ho y (.tail _ h)
      · exact ho y h
    · rcases List.mem_cons.1 h with rfl | h
      · exact hx
      · exact ho y h
theorem mergeStep_length (out : List Itv) (x : Itv) : (mergeStep out x).length ≤ out.length + 1 := by
  unfold mergeStep
  cases out with
  | nil => simp
  | cons a r =>
    simp only
    split
    · split <;> simp
    · simp
theorem foldl_merge_length : ∀ (l out : List Itv), (l.foldl mergeStep out).length ≤ out.length + l.length
  | [], out => by simp
  | a :: r, out => by
    have h1 := foldl_merge_length r (mergeStep out a)
    have h2 := mergeStep_length out a
    simp only [List.foldl_cons, List.length_cons]; omega
theorem sortRev_ok {l : List Itv} (h : ∀ y ∈ l, ItvOk y) : ∀ y ∈ sortRev l, ItvOk y :=
  foldl_ok (fun acc => ∀ y ∈ acc, ItvOk y) ItvOk _ (fun acc x h1 h2 => insRev_ok h2 h1) l [] (fun y hy => by cases hy) h
theorem foldl_ins_length : ∀ (l acc : List Itv), (l.foldl (fun acc x => insRev x acc) acc).length = acc.length + l.length
  | [], acc => by simp
  | a :: r, acc => by
    have h1 := foldl_ins_length r (insRev a acc)
    rw [insRev_length] at h1
    simp only [List.foldl_cons, List.length_cons]; omega
theorem sortRev_length (l : List Itv) : (sortRev l).length = l.length := by unfold sortRev; rw [foldl_ins_length]; simp
theorem joinS_ok {l : List Itv} (h : ∀ y ∈ l, ItvOk y) : ∀ y ∈ joinS l, ItvOk y := by
  intro y hy
  unfold joinS at hy
  rw [List.mem_reverse] at hy
  exact foldl_ok (fun acc => ∀ y ∈ acc, ItvOk y) ItvOk mergeStep (fun acc x h1 h2 => mergeStep_ok h1 h2) _ [] (fun y hy => by cases hy)
    (fun x hx => sortRev_ok (fun z hz => h z ((List.mem_filter.1 hz).1)) x (List.mem_reverse.1 hx)) y hy
theorem joinS_length (l : List Itv) : (joinS l).length ≤ l.length := by
  unfold joinS
  have h1 := foldl_merge_length (sortRev (l.filter nonE)).reverse []
  have h2 := List.length_filter_le nonE l
  rw [List.length_reverse, sortRev_length] at h1
  rw [List.length_reverse]
  simp only [List.length_nil, Nat.zero_add] at h1
  omega
theorem meetOne_ok {x y : Itv} (hx : ItvOk x) (hy : ItvOk y) : ItvOk (meetOne x y) := by
  unfold meetOne
  refine itvOk_between ?_ ?_
  · split
    · exact hy.low
    · exact hx.low
  · split
    · exact hy.high
    · exact hx.high
theorem meetS_ok {a b : List Itv} (ha : ∀ y ∈ a, ItvOk y) (hb : ∀ y ∈ b, ItvOk y) : ∀ y ∈ meetS a b, ItvOk y := by
  refine joinS_ok fun y hy => ?_
  obtain ⟨x, hx, hy⟩ := List.mem_flatMap.1 hy
  obtain ⟨z, hz, rfl⟩ := List.mem_map.1 hy
  exact meetOne_ok (ha x hx) (hb z hz)
theorem meetS_length {a b : List Itv} (ha : a.length ≤ 1) (hb : b.length ≤ 1) : (meetS a b).length ≤ 1 := by
  refine Nat.le_trans (joinS_length _) ?_
  cases a with
  | nil => exact Nat.zero_le _
  | cons x r =>
    cases r with
    | cons y r => simp at ha
    | nil =>
      rw [List.flatMap_cons, List.flatMap_nil, List.append_nil, List.length_map]; exact hb
theorem fromS_ok {v : Ver} {op : Bool} (hv : VerOk v) : ∀ y ∈ fromS v op, ItvOk y := by
  intro y hy
  simp only [fromS, List.mem_singleton] at hy
  rw [hy]; exact itvOk_between ⟨hv⟩ edgeOk_top
theorem belowS_ok {v : Ver} {op : Bool} (hv : VerOk v) : ∀ y ∈ belowS v op, ItvOk y := by
  refine joinS_ok fun y hy => ?_
  simp only [List.mem_singleton] at hy
  rw [hy]; exact itvOk_between edgeOk_bottom ⟨hv⟩
theorem belowS_length (v : Ver) (op : Bool) : (belowS v op).length ≤ 1 := joinS_length _
theorem nextV_ok {v n : Ver} {part : Nat} (hv : VerOk v) (h : nextV v part = some n) : VerOk n := by
  obtain ⟨h1, h2, h3, h4⟩ := hv
  simp only [verMay, Bool.and_eq_true, decide_eq_true_eq] at h1
  obtain ⟨⟨⟨⟨a1, a2⟩, a3⟩, a4⟩, a5⟩ := h1
  unfold nextV at h
  repeat' split at h
  all_goals first | (cases h; done) | skip
  all_goals
    cases h
    refine ⟨?_, ?_, ?_, ?_⟩ <;> simp only [verMay, Bool.and_eq_true, decide_eq_true_eq, List.all_nil, List.length_nil] <;> (try refine ⟨⟨⟨⟨?_, ?_⟩, ?_⟩, ?_⟩, ?_⟩) <;> first | omega | rfl | trivial
theorem leastV_ok {v : Ver} (hv : VerOk v) : VerOk (leastV v) := by
  obtain ⟨h1, h2, h3, h4⟩ := hv
  simp only [verMay, Bool.and_eq_true, decide_eq_true_eq] at h1
  obtain ⟨⟨⟨⟨a1, a2⟩, a3⟩, a4⟩, a5⟩ := h1
  refine ⟨?_, h2, h3, h4⟩
  have e1 : ([[48]] : List Bs).all identL = true := by decide
  unfold verMay leastV
  rw [e1]
  simp [a1, a2, a3]
theorem uptoS_ok {v : Ver} {part : Nat} (hv : VerOk v) : (∀ y ∈ uptoS v part, ItvOk y) ∧ (uptoS v part).length ≤ 1 := by
  unfold uptoS
  split
  · exact ⟨fromS_ok hv, Nat.le_refl _⟩
  · rename_i n h
    exact ⟨meetS_ok (fromS_ok hv) (belowS_ok (leastV_ok (nextV_ok hv h))), meetS_length (Nat.le_refl _) (belowS_length _ _)⟩
theorem opS_ok {ops : Bs} {v : Ver} {l : List Itv} (hv : VerOk v) (h : opS ops v = some l) : (∀ y ∈ l, ItvOk y) ∧ l.length ≤ 1 := by
  unfold opS at h
  repeat' split at h
  all_goals first | (cases h; done) | skip
  all_goals cases h
  · exact ⟨meetS_ok (fromS_ok hv) (belowS_ok hv), meetS_length (Nat.le_refl _) (belowS_length _ _)⟩
  · exact ⟨belowS_ok hv, belowS_length _ _⟩
  · exact ⟨belowS_ok hv, belowS_length _ _⟩
  · exact ⟨fromS_ok hv, Nat.le_refl _⟩
  · exact ⟨fromS_ok hv, Nat.le_refl _⟩
  · exact uptoS_ok hv
  · exact uptoS_ok hv
theorem comparedS_ok {s : Bs} {l : List Itv} (h : comparedS s = some l) : (∀ y ∈ l, ItvOk y) ∧ l.length ≤ 1 := by
  unfold comparedS at h
  split at h
  · cases h
  · rename_i v hv
    exact opS_ok (verOk_read hv) h
theorem everyS_ok : (∀ y ∈ everyS, ItvOk y) ∧ everyS.length ≤ 1 :=
  ⟨fun y hy => by simp only [everyS, List.mem_singleton] at hy; rw [hy]; exact itvOk_between edgeOk_bottom edgeOk_top, Nat.le_refl _⟩
theorem altGo_ok : ∀ {cs : List Bs} {all l : List Itv}, (∀ y ∈ all, ItvOk y) → all.length ≤ 1 → altGo all cs = some l → (∀ y ∈ l, ItvOk y) ∧ l.length ≤ 1
  | [], all, l, h1, h2, h => by cases h; exact ⟨h1, h2⟩
  | c :: r, all, l, h1, h2, h => by
    unfold altGo at h
    split at h
    · cases h
    · rename_i x hx
      have := comparedS_ok hx
      exact altGo_ok (meetS_ok h1 this.1) (meetS_length h2 this.2) h
theorem altS_ok {s : Bs} {l : List Itv} (h : altS s = some l) : (∀ y ∈ l, ItvOk y) ∧ l.length ≤ 1 := by
  unfold altS at h
  repeat' split at h
  · cases h; exact everyS_ok
  · cases h; exact ⟨fun y hy => (by cases hy), (by simp)⟩
  · cases h
  · exact altGo_ok everyS_ok.1 everyS_ok.2 h
theorem allAlts_ok : ∀ {ps : List Bs} {l : List Itv}, allAlts ps = some l → (∀ y ∈ l, ItvOk y) ∧ l.length ≤ ps.length
  | [], l, h => by cases h; exact ⟨fun y hy => (by cases hy), Nat.le_refl _⟩
  | a :: r, l, h => by
    unfold allAlts at h
    split at h
    · cases h
    · rename_i x hx
      split at h
      · cases h
      · rename_i y hy
        cases h
        have h1 := altS_ok hx; have h2 := allAlts_ok hy
        refine ⟨fun z hz => ?_, by simp; omega⟩
        rcases List.mem_append.1 hz with hz | hz
        · exact h1.1 z hz
        · exact h2.1 z hz
theorem readS_ok {s : Bs} {l : List Itv} (h : readS s = some l) : (∀ y ∈ l, ItvOk y) ∧ l.length ≤ 16 := by
  unfold readS at h
  repeat' split at h
  all_goals first | (cases h; done) | skip
  rename_i hl _
  cases h
  exact ⟨joinS_ok (allAlts_ok hl).1, by omega⟩
end Yk
