/- Texts packed for one claim, 6 of 49: StatusR PrP LsP LsW. -/
import Derived.Test.YtbglakhojbhfbaaGreatDoorEncodeBackQ5
import Derived.Test.YtbglakhojbhfbaaGreatDoorEncodeBackQ4
import Derived.Test.YtbglakhojbhfbaaGreatDoorEncodeBackQ2
set_option linter.unusedSimpArgs false
set_option linter.unusedVariables false
-- StatusR
namespace Go.Proofs.YtbglakhojbhfbaaGreatDoor
open Go.RowKit
end Go.Proofs.YtbglakhojbhfbaaGreatDoor

-- PrP
namespace Go.Proofs.YtbglakhojbhfbaaGreatDoor
open Go.RowKit
def skipN (l : List UInt8) : Nat := (l.takeWhile blL).length
def tkB (b : UInt8) : Bool := tcharB b.toNat
def tokN (l : List UInt8) : Nat := (l.takeWhile tkB).length
/-- What stands quoted, behind its first mark: how many octets, and the text. -/
def qtL : List UInt8 → Option (Nat × List UInt8)
  | [] => none
  | b :: t => if b = 34 then some (1, []) else if b = 92 then
      (match t with
       | [] => none
       | c :: r => if valueB c.toNat = true then (qtL r).map (fun p => (p.1 + 2, c :: p.2)) else none)
    else if valueB b.toNat = true then (qtL t).map (fun p => (p.1 + 1, b :: p.2)) else none
def quL : List UInt8 → Option (Nat × List UInt8)
  | [] => none
  | b :: t => if b = 34 then (qtL t).map (fun p => (p.1 + 1, p.2)) else none
/-- How many octets a parameter's value takes, with the sign ahead of it. -/
def valF (l : List UInt8) : Option Nat :=
  match l.drop (skipN l) with
  | [] => some 0
  | b :: r => if b = 61 then
      (if 0 < tokN (r.drop (skipN r)) then some (skipN l + 1 + skipN r + tokN (r.drop (skipN r)))
       else (quL (r.drop (skipN r))).map (fun p => skipN l + 1 + skipN r + p.1))
    else some 0
/-- How many octets a parameter takes. -/
def parF (l : List UInt8) : Option Nat :=
  match l.drop (skipN l) with
  | [] => none
  | b :: r => if b = 59 then
      (if tokN (r.drop (skipN r)) = 0 then none
       else (valF (r.drop (skipN r + tokN (r.drop (skipN r))))).map (fun n => skipN l + 1 + skipN r + tokN (r.drop (skipN r)) + n))
    else none
/-- How many parameters a text is. -/
def parsF (l : List UInt8) : Option Nat :=
  match l with
  | [] => some 0
  | c :: t =>
    match parF (c :: t) with
    | none => none
    | some 0 => none
    | some (n + 1) => (parsF (t.drop n)).map (· + 1)
termination_by l.length
decreasing_by simp only [List.length_cons, List.length_drop]; omega
def lowI (c : Int) : Int := if 65 ≤ c ∧ c ≤ 90 then c + 32 else c
def low8 (b : UInt8) : UInt8 := if 65 ≤ b.toNat ∧ b.toNat ≤ 90 then b + 32 else b
def lowL (l : List UInt8) : List UInt8 := l.map low8
def lowB (s : ByteArray) : ByteArray := ⟨(lowL s.data.toList).toArray⟩
theorem low8_nat (b : UInt8) : ((low8 b).toNat : Int) = lowI b.toNat := by
  unfold low8 lowI
  have hb : b.toNat < 256 := b.toNat_lt
  by_cases h : 65 ≤ b.toNat ∧ b.toNat ≤ 90
  · rw [if_pos h, if_pos (by omega), UInt8.toNat_add]
    show (((b.toNat + 32) % 256 : Nat) : Int) = _
    omega
  · rw [if_neg h, if_neg (by omega)]
theorem lowB_size (s : ByteArray) : (lowB s).size = s.size := by
  show (lowL s.data.toList).toArray.size = s.size
  unfold lowL
  simp
/-- A text's word, how many parameters stand behind it, and what is wrong. -/
def wordP (s : ByteArray) : ByteArray × Nat × Int :=
  if s.size = 0 then (⟨#[]⟩, 0, 2)
  else if tokN s.data.toList = 0 then (⟨#[]⟩, 0, 3)
  else match parsF (s.data.toList.drop (tokN s.data.toList)) with
    | none => (⟨#[]⟩, 0, 3)
    | some k => (lowB (s.extract 0 (tokN s.data.toList)), k, 0)
theorem skipN_le (l : List UInt8) : skipN l ≤ l.length := by unfold skipN; exact List.Sublist.length_le (List.takeWhile_sublist _)
theorem tokN_le (l : List UInt8) : tokN l ≤ l.length := by unfold tokN; exact List.Sublist.length_le (List.takeWhile_sublist _)
theorem qtL_le : ∀ (n : Nat) (l : List UInt8) (p : Nat × List UInt8), l.length ≤ n → qtL l = some p → 1 ≤ p.1 ∧ p.1 ≤ l.length ∧ p.2.length ≤ l.length
  | _, [], _, _, h => by rw [qtL] at h; cases h
  | 0, b :: t, _, hn, _ => by simp at hn
  | n + 1, b :: t, p, hn, h => by
    have ht : t.length ≤ n := by simpa using hn
    rw [qtL.eq_def] at h
    simp only at h
    split at h
    · cases h; simp
    split at h
    · cases t with
      | nil => cases h
      | cons c r =>
        simp only at h
        split at h
        · cases hq : qtL r with
          | none => rw [hq] at h; cases h
          | some q =>
            rw [hq] at h
            cases h
            have := qtL_le n r q (by simp at ht; omega) hq
            simp only [List.length_cons]
            omega
        · cases h
    split at h
    · cases hq : qtL t with
      | none => rw [hq] at h; cases h
      | some q =>
        rw [hq] at h
        cases h
        have := qtL_le n t q ht hq
        simp only [List.length_cons]
        omega
    · cases h
theorem quL_le {l : List UInt8} {p : Nat × List UInt8} (h : quL l = some p) : 2 ≤ p.1 ∧ p.1 ≤ l.length ∧ p.2.length ≤ l.length := by
  cases l with
  | nil => cases h
  | cons b t =>
    unfold quL at h
    simp only at h
    split at h
    · cases hq : qtL t with
      | none => rw [hq] at h; cases h
      | some q =>
        rw [hq] at h
        cases h
        have := qtL_le _ t q (Nat.le_refl _) hq
        simp only [List.length_cons]
        omega
    · cases h
theorem drop_cons_le {l r : List UInt8} {n : Nat} {b : UInt8} (h : l.drop n = b :: r) : n + 1 + r.length = l.length := by
  have := congrArg List.length h
  rw [List.length_drop, List.length_cons] at this
  have : n < l.length := by omega
  omega
theorem valF_le {l : List UInt8} {n : Nat} (h : valF l = some n) : n ≤ l.length := by
  unfold valF at h
  split at h
  · cases h; omega
  · rename_i b r hb
    have h1 := drop_cons_le hb
    have h2 := skipN_le r
    split at h
    · split at h
      · cases h
        have := tokN_le (r.drop (skipN r))
        rw [List.length_drop] at this
        omega
      · cases hq : quL (r.drop (skipN r)) with
        | none => rw [hq] at h; cases h
        | some q =>
          rw [hq] at h
          cases h
          have := quL_le hq
          rw [List.length_drop] at this
          dsimp only
          omega
    · cases h; omega
theorem parF_le {l : List UInt8} {n : Nat} (h : parF l = some n) : 2 ≤ n ∧ n ≤ l.length := by
  unfold parF at h
  split at h
  · cases h
  · rename_i b r hb
    have h1 := drop_cons_le hb
    have h2 := skipN_le r
    split at h
    · split at h
      · cases h
      · rename_i h3
        have h4 := tokN_le (r.drop (skipN r))
        rw [List.length_drop] at h4
        cases hv : valF (r.drop (skipN r + tokN (r.drop (skipN r)))) with
        | none => rw [hv] at h; cases h
        | some m =>
          rw [hv] at h
          cases h
          have := valF_le hv
          rw [List.length_drop] at this
          dsimp only
          omega
    · cases h
theorem parsF_step {l : List UInt8} (hl : l ≠ []) : parsF l = match parF l with | none => none | some n => (parsF (l.drop n)).map (· + 1) := by
  cases l with
  | nil => exact absurd rfl hl
  | cons c t =>
    rw [parsF]
    cases hp : parF (c :: t) with
    | none => rfl
    | some n =>
      have := parF_le hp
      obtain ⟨m, rfl⟩ : ∃ m, n = m + 1 := ⟨n - 1, by omega⟩
      rfl
theorem parsF_nil : parsF [] = some 0 := by rw [parsF]
theorem parsF_le : ∀ (n : Nat) (l : List UInt8) (k : Nat), l.length ≤ n → parsF l = some k → k ≤ l.length
  | _, [], k, _, h => by rw [parsF_nil] at h; cases h; simp
  | 0, c :: t, _, hn, _ => by simp at hn
  | n + 1, c :: t, k, hn, h => by
    rw [parsF_step (by simp)] at h
    cases hp : parF (c :: t) with
    | none => rw [hp] at h; cases h
    | some m =>
      have hm := parF_le hp
      rw [hp] at h
      simp only at h
      cases hq : parsF ((c :: t).drop m) with
      | none => rw [hq] at h; cases h
      | some j =>
        rw [hq] at h
        cases h
        have := parsF_le n ((c :: t).drop m) j (by rw [List.length_drop]; omega) hq
        rw [List.length_drop] at this
        dsimp only
        omega
end Go.Proofs.YtbglakhojbhfbaaGreatDoor
-- LsP
namespace Go.Proofs.YtbglakhojbhfbaaGreatDoor
open Go.RowKit
/-- How a place is closed in: between marks, behind a slash, in so many brackets. -/
structure Sc where
  q : Bool
  s : Bool
  d : Nat
def scz : Sc := ⟨false, false, 0⟩
def Sc.closed (x : Sc) : Bool := !x.q && (!x.s && x.d == 0)
def Sc.see (x : Sc) (c : Int) : Sc :=
  if x.s = true then ⟨x.q, false, x.d⟩
  else if c = 92 then ⟨x.q, x.q || decide (0 < x.d), x.d⟩
  else if x.q = true then ⟨decide (c ≠ 34), false, x.d⟩
  else if c = 40 then ⟨false, false, x.d + 1⟩
  else if 0 < x.d then (if c = 41 then ⟨false, false, x.d - 1⟩ else ⟨false, false, x.d⟩)
  else if c = 34 then ⟨true, false, 0⟩
  else ⟨false, false, 0⟩
theorem closed_z {x : Sc} (h : x.closed = true) : x = scz := by
  obtain ⟨q, s, d⟩ := x
  unfold Sc.closed at h
  cases q <;> cases s <;> simp at h ⊢
  subst h
  rfl
def scfin : Sc → List UInt8 → Sc
  | x, [] => x
  | x, c :: l => scfin (x.see c.toNat) l
/-- The pieces: 'a' is begun. -/
def pcs : Sc → List UInt8 → List UInt8 → List (List UInt8)
  | _, a, [] => [a]
  | x, a, c :: l => if (c == 44 && x.closed) = true then a :: pcs x [] l else pcs (x.see c.toNat) (a ++ [c]) l
/-- How many octets till all is closed again. -/
def behL : Sc → List UInt8 → Option Nat
  | _, [] => none
  | x, c :: l => if (x.see c.toNat).closed = true then some 1 else (behL (x.see c.toNat) l).map (· + 1)
theorem behL_le : ∀ (l : List UInt8) (x : Sc) (n : Nat), behL x l = some n → 1 ≤ n ∧ n ≤ l.length
  | [], _, _, h => by cases h
  | c :: l, x, n, h => by
    unfold behL at h
    split at h
    · cases h; simp
    · cases hb : behL (x.see c.toNat) l with
      | none => rw [hb] at h; cases h
      | some m =>
        rw [hb] at h
        cases h
        have := behL_le l _ m hb
        simp only [List.length_cons]
        omega
theorem behL_some : ∀ (l : List UInt8) (x : Sc) (n : Nat) (a : List UInt8), x.closed = false → behL x l = some n → scfin x l = scfin scz (l.drop n) ∧ pcs x a l = pcs scz (a ++ l.take n) (l.drop n)
  | [], _, _, _, _, h => by cases h
  | c :: l, x, n, a, hx, h => by
    unfold behL at h
    have hp : pcs x a (c :: l) = pcs (x.see c.toNat) (a ++ [c]) l := by
      rw [pcs, hx, Bool.and_false, if_neg (by decide)]
    rw [hp]
    split at h
    · rename_i hc
      cases h
      rw [scfin, closed_z hc]
      exact ⟨rfl, rfl⟩
    · rename_i hc
      cases hb : behL (x.see c.toNat) l with
      | none => rw [hb] at h; cases h
      | some m =>
        rw [hb] at h
        cases h
        have := behL_some l _ m (a ++ [c]) (by simpa using hc) hb
        rw [scfin, this.1, this.2, List.append_assoc]
        exact ⟨rfl, rfl⟩
theorem behL_none : ∀ (l : List UInt8) (x : Sc), x.closed = false → behL x l = none → (scfin x l).closed = false
  | [], x, hx, _ => hx
  | c :: l, x, hx, h => by
    unfold behL at h
    split at h
    · cases h
    · rename_i hc
      rw [scfin]
      refine behL_none l _ (by simpa using hc) ?_
      cases hb : behL (x.see c.toNat) l with
      | none => rfl
      | some m => rw [hb] at h; cases h
/-- What the reference cuts: 'a' is begun. -/
def rcs (a : List UInt8) (l : List UInt8) : Option (List (List UInt8)) :=
  match l with
  | [] => some [a]
  | c :: t =>
    if c = 34 ∨ c = 40 then
      match behL (scz.see c.toNat) t with
      | none => none
      | some n => rcs (a ++ c :: t.take n) (t.drop n)
    else if c = 44 then (rcs [] t).map (a :: ·)
    else rcs (a ++ [c]) t
termination_by l.length
decreasing_by
  all_goals simp only [List.length_cons, List.length_drop]; omega
theorem see_z {c : UInt8} (h1 : c ≠ 34) (h2 : c ≠ 40) : scz.see c.toNat = scz := by
  have e1 : ¬ (c.toNat : Int) = 34 := fun h => h1 (UInt8.toNat_inj.1 (by have : c.toNat = 34 := by omega
                                                                         rw [this]; rfl))
  have e2 : ¬ (c.toNat : Int) = 40 := fun h => h2 (UInt8.toNat_inj.1 (by have : c.toNat = 40 := by omega
                                                                         rw [this]; rfl))
  unfold Sc.see scz
  simp [e1, e2]
theorem see_o {c : UInt8} (h : c = 34 ∨ c = 40) : (scz.see c.toNat).closed = false := by
  rcases h with rfl | rfl <;> decide
/-- The two ways to read come to the same. -/
theorem rcs_pcs : ∀ (n : Nat) (l a : List UInt8), l.length ≤ n → rcs a l = if (scfin scz l).closed = true then some (pcs scz a l) else none
  | n, [], a, _ => by
    rw [rcs]; rfl
  | 0, c :: t, a, h => by simp at h
  | n + 1, c :: t, a, h => by
    have ht : t.length ≤ n := by simpa using h
    rw [rcs]
    by_cases hc : c = 34 ∨ c = 40
    · rw [if_pos hc]
      have ho := see_o hc
      have hp : pcs scz a (c :: t) = pcs (scz.see c.toNat) (a ++ [c]) t := by
        rw [pcs]
        have : (c == 44) = false := by rcases hc with rfl | rfl <;> decide
        rw [this, Bool.false_and, if_neg (by decide)]
      rw [hp, scfin]
      cases hb : behL (scz.see c.toNat) t with
      | none =>
        rw [behL_none t _ ho hb]
        rfl
      | some m =>
        obtain ⟨e1, e2⟩ := behL_some t _ m (a ++ [c]) ho hb
        show rcs (a ++ c :: t.take m) (t.drop m) = _
        rw [e1, e2, rcs_pcs n (t.drop m) _ (by rw [List.length_drop]; omega), List.append_assoc]
        rfl
    · rw [if_neg hc]
      have h1 : c ≠ 34 := fun h => hc (Or.inl h)
      have h2 : c ≠ 40 := fun h => hc (Or.inr h)
      have hz := see_z h1 h2
      rw [scfin, hz]
      by_cases h44 : c = 44
      · rw [if_pos h44, rcs_pcs n t [] ht]
        have hp : pcs scz a (c :: t) = a :: pcs scz [] t := by
          rw [pcs, h44, if_pos (by decide)]
        rw [hp]
        split <;> rfl
      · rw [if_neg h44, rcs_pcs n t _ ht]
        have hp : pcs scz a (c :: t) = pcs scz (a ++ [c]) t := by
          rw [pcs]
          have : (c == 44) = false := by rw [beq_eq_false_iff_ne]; exact h44
          rw [this, Bool.false_and, if_neg (by decide), hz]
        rw [hp]
/-- The elements of a text. -/
def someL (ps : List (List UInt8)) : List ByteArray := (ps.map fun p => (⟨(trimL p).toArray⟩ : ByteArray)).filter fun e => !e.toList.isEmpty
def splitP (s : ByteArray) : Option (List ByteArray) :=
  if (scfin scz s.data.toList).closed = true then some (someL (pcs scz [] s.data.toList)) else none
theorem splitP_rcs (s : ByteArray) : splitP s = (rcs [] s.data.toList).map someL := by
  rw [rcs_pcs _ _ _ (Nat.le_refl _)]
  unfold splitP
  split <;> rfl
end Go.Proofs.YtbglakhojbhfbaaGreatDoor
-- LsW
namespace Go.Proofs.YtbglakhojbhfbaaGreatDoor
open Go.RowKit
def Sc.row (x : Sc) : Array Value := #[.bool x.q, .bool x.s, .int .i64 (x.d : Int)]
theorem see_d (x : Sc) (c : Int) : (x.see c).d ≤ x.d + 1 := by
  obtain ⟨q, s, d⟩ := x
  unfold Sc.see
  simp only
  repeat' split
  all_goals first | exact Nat.le_succ _ | exact Nat.le_refl _ | exact Nat.zero_le _ | exact Nat.le_trans (Nat.sub_le _ _) (Nat.le_succ _)
theorem bt_drop (s : ByteArray) (k : Nat) (h : k < s.size) : ∃ c : UInt8, bt s k = c.toNat ∧ s.data.toList.drop k = c :: s.data.toList.drop (k + 1) := by
  refine ⟨s[k]'h, bt_get s k h, ?_⟩
  have := List.drop_eq_getElem_cons (l := s.data.toList) (i := k) (by simpa using h)
  exact this
theorem drop_size (s : ByteArray) : s.data.toList.drop s.size = [] := List.drop_of_length_le (by simp)
end Go.Proofs.YtbglakhojbhfbaaGreatDoor
