/- Texts packed for one claim, 7 of 49: HostP. -/
import Derived.Test.YtbglakhojbhfbaaGreatDoorEncodeBackQ4
import Derived.Test.YtbglakhojbhfbaaGreatDoorEncodeBackQ3
set_option linter.unusedSimpArgs false
set_option linter.unusedVariables false
-- HostP
namespace Go.Proofs.YtbglakhojbhfbaaGreatDoor
open Go.RowKit
def hexI (c : Int) : Bool := decide (48 ≤ c ∧ c ≤ 57 ∨ 65 ≤ c ∧ c ≤ 70 ∨ 97 ≤ c ∧ c ≤ 102)
def signI (c : Int) : Bool := decide (c = 45 ∨ c = 46 ∨ c = 95 ∨ c = 126 ∨ c = 33 ∨ c = 36 ∨ c = 38 ∨ c = 39 ∨ c = 40 ∨ c = 41 ∨ c = 42 ∨ c = 43 ∨ c = 44 ∨ c = 59 ∨ c = 61)
def plainI (c : Int) : Bool := decide (48 ≤ c ∧ c ≤ 57 ∨ 65 ≤ c ∧ c ≤ 90 ∨ 97 ≤ c ∧ c ≤ 122) || signI c
def hxB (b : UInt8) : Bool := hexI b.toNat
def plainB (b : UInt8) : Bool := plainI b.toNat
def litI (c : Int) : Bool := hexI c || decide (c = 58 ∨ c = 46)
def litB (b : UInt8) : Bool := litI b.toNat
/-- A name but a literal, octet by octet: so many digits are owed. -/
def regS : Nat → List UInt8 → Bool
  | k, [] => k == 0
  | 0, c :: t => if c = 37 then regS 2 t else if plainB c = true then regS 0 t else false
  | k + 1, c :: t => if hxB c = true then regS k t else false
def regP (l : List UInt8) : Bool := !l.isEmpty && regS 0 l
/-- How many octets of a name stand at the beginning; none: what a % begins is wrong. -/
def regF : List UInt8 → Option Nat
  | [] => some 0
  | c :: t => if c = 37 then
      (match t with
       | a :: b :: r => if hxB a = true ∧ hxB b = true then (regF r).map (· + 3) else none
       | _ => none)
    else if plainB c = true then (regF t).map (· + 1) else some 0
/-- Is a text a literal? -/
def litP (l : List UInt8) : Bool :=
  match l with
  | [] => false
  | c :: t => c == 91 && (t.getLast? == some 93 && (!t.dropLast.isEmpty && t.dropLast.all litB))
def litN (l : List UInt8) : Nat := (l.takeWhile litB).length
/-- How many octets the name has; 0: there is none. -/
def nameN (l : List UInt8) : Nat :=
  match l with
  | [] => 0
  | c :: t => if c = 91 then (if litN t = 0 then 0 else if t[litN t]? = some 93 then litN t + 2 else 0) else (regF (c :: t)).getD 0
/-- What the reference answers: octets of the name, the port, the error. -/
def hostR (l : List UInt8) : Nat × Int × Int :=
  if l.isEmpty then (0, 0, 2)
  else if nameN l = 0 then (0, 0, 3)
  else if nameN l = l.length then (l.length, 80, 0)
  else if l[nameN l]? ≠ some 58 then (0, 0, 3)
  else if (numRes (l.drop (nameN l + 1)) 10 65535).2 = 5 then (0, 0, 5)
  else if (numRes (l.drop (nameN l + 1)) 10 65535).2 ≠ 0 then (0, 0, 3)
  else (nameN l, (numRes (l.drop (nameN l + 1)) 10 65535).1, 0)
/-- What the program answers, its last colon at I, its first bracket at J. -/
def hostP (l : List UInt8) (I J : Int) : Nat × Int × Int :=
  if l.isEmpty then (0, 0, 2)
  else if I < J ∨ I < 0 then (if (regP l || litP l) = true then (l.length, 80, 0) else (0, 0, 3))
  else if (regP (l.take I.toNat) || litP (l.take I.toNat)) = true then
    (if (numRes (l.drop (I.toNat + 1)) 10 65535).2 = 5 then (0, 0, 5)
     else if (numRes (l.drop (I.toNat + 1)) 10 65535).2 ≠ 0 then (0, 0, 3)
     else (I.toNat, (numRes (l.drop (I.toNat + 1)) 10 65535).1, 0))
  else (0, 0, 3)
theorem regS_bad {c : UInt8} (h1 : hxB c = false) (h2 : plainB c = false) (h3 : c ≠ 37) : ∀ (l : List UInt8) (k : Nat), c ∈ l → regS k l = false
  | [], _, h => by cases h
  | b :: t, 0, h => by
    rw [regS]
    rcases List.mem_cons.1 h with e | h
    · subst e
      rw [if_neg h3, if_neg (by rw [h2]; decide)]
    · split
      · exact regS_bad h1 h2 h3 t 2 h
      · split
        · exact regS_bad h1 h2 h3 t 0 h
        · rfl
  | b :: t, k + 1, h => by
    rw [regS]
    rcases List.mem_cons.1 h with e | h
    · subst e
      rw [if_neg (by rw [h1]; decide)]
    · split
      · exact regS_bad h1 h2 h3 t k h
      · rfl
theorem regF_some : ∀ (m : Nat) (l : List UInt8) (n : Nat), l.length ≤ m → regF l = some n → n ≤ l.length ∧ regS 0 (l.take n) = true
  | _, [], n, _, h => by rw [regF] at h; cases h; exact ⟨Nat.le_refl _, rfl⟩
  | 0, c :: t, _, hm, _ => by simp at hm
  | m + 1, c :: t, n, hm, h => by
    have ht : t.length ≤ m := by simpa using hm
    rw [regF.eq_def] at h
    simp only at h
    by_cases h37 : c = 37
    · rw [if_pos h37] at h
      match t, ht, h with
      | a :: b :: r, ht, h =>
        simp only at h
        by_cases hh : hxB a = true ∧ hxB b = true
        · rw [if_pos hh] at h
          cases hr : regF r with
          | none => rw [hr] at h; cases h
          | some q =>
            rw [hr] at h
            cases h
            have := regF_some m r q (by simp at ht; omega) hr
            refine ⟨by simp only [List.length_cons]; omega, ?_⟩
            show regS 0 (c :: a :: b :: r.take q) = true
            rw [regS, if_pos h37, regS, if_pos hh.1, regS, if_pos hh.2]
            exact this.2
        · rw [if_neg hh] at h; cases h
      | [], _, h => cases h
      | [_], _, h => cases h
    · rw [if_neg h37] at h
      by_cases hp : plainB c = true
      · rw [if_pos hp] at h
        cases hr : regF t with
        | none => rw [hr] at h; cases h
        | some q =>
          rw [hr] at h
          cases h
          have := regF_some m t q ht hr
          refine ⟨by simp only [List.length_cons]; omega, ?_⟩
          show regS 0 (c :: t.take q) = true
          rw [regS, if_neg h37, if_pos hp]
          exact this.2
      · rw [if_neg hp] at h
        cases h
        exact ⟨Nat.zero_le _, rfl⟩
theorem regF_of : ∀ (m : Nat) (p q : List UInt8), p.length ≤ m → regS 0 p = true → (∀ c, q.head? = some c → plainB c = false ∧ c ≠ 37) → regF (p ++ q) = some p.length
  | _, [], q, _, _, hq => by
    cases q with
    | nil => rw [List.append_nil, regF]; rfl
    | cons c t =>
      have := hq c rfl
      rw [List.nil_append, regF.eq_def]
      simp only
      rw [if_neg this.2, if_neg (by rw [this.1]; decide)]
      rfl
  | 0, c :: t, _, hm, _, _ => by simp at hm
  | m + 1, c :: t, q, hm, h, hq => by
    have ht : t.length ≤ m := by simpa using hm
    rw [regS] at h
    rw [List.cons_append, regF.eq_def]
    simp only
    by_cases h37 : c = 37
    · rw [if_pos h37] at h ⊢
      match t, ht, h with
      | [], _, h => rw [regS] at h; cases h
      | [a], _, h =>
        rw [regS] at h
        split at h
        · rw [regS] at h; cases h
        · cases h
      | a :: b :: r, ht, h =>
        rw [regS] at h
        split at h
        · rename_i ha
          rw [regS] at h
          split at h
          · rename_i hb
            have := regF_of m r q (by simp at ht; omega) h hq
            simp only [List.cons_append]
            rw [if_pos ⟨ha, hb⟩, this]
            rfl
          · cases h
        · cases h
    · rw [if_neg h37] at h ⊢
      split at h
      · rename_i hp
        rw [if_pos hp, regF_of m t q ht h hq]
        rfl
      · cases h
theorem takeWhile_app {α : Type} {f : α → Bool} : ∀ (p q : List α), (∀ b ∈ p, f b = true) → (∀ c, q.head? = some c → f c = false) → (p ++ q).takeWhile f = p
  | [], q, _, hq => by
    cases q with
    | nil => rfl
    | cons c t => rw [List.nil_append, List.takeWhile_cons, hq c rfl]; rfl
  | b :: p, q, hp, hq => by
    rw [List.cons_append, List.takeWhile_cons, hp b (by simp), if_pos rfl, takeWhile_app p q (fun x hx => hp x (by simp [hx])) hq]
theorem last_app {l : List UInt8} {a : UInt8} (h : l.getLast? = some a) : l.dropLast ++ [a] = l := by
  rcases List.eq_nil_or_concat l with rfl | ⟨p, b, rfl⟩
  · cases h
  · rw [List.concat_eq_append] at h ⊢
    have : b = a := by simpa using h
    rw [List.dropLast_concat, this]
theorem litP_of {l : List UInt8} (h : litP l = true) : ∃ t, l = 91 :: (t ++ [93]) ∧ t ≠ [] ∧ ∀ b ∈ t, litB b = true := by
  cases l with
  | nil => cases h
  | cons c t =>
    unfold litP at h
    simp only [Bool.and_eq_true, beq_iff_eq, Bool.not_eq_true', List.all_eq_true] at h
    obtain ⟨rfl, h1, h2, h3⟩ := h
    refine ⟨t.dropLast, ?_, ?_, h3⟩
    · rw [last_app h1]
    · intro e
      rw [e] at h2
      exact absurd h2 (by decide)
theorem litP_mk {t : List UInt8} (h1 : t ≠ []) (h2 : ∀ b ∈ t, litB b = true) : litP (91 :: (t ++ [93])) = true := by
  unfold litP
  simp only [Bool.and_eq_true, beq_iff_eq, Bool.not_eq_true', List.all_eq_true]
  refine ⟨trivial, by simp, ?_, ?_⟩
  · rw [List.dropLast_concat]
    cases t with
    | nil => exact absurd rfl h1
    | cons _ _ => rfl
  · rw [List.dropLast_concat]
    exact h2
theorem nameN_some {l : List UInt8} {n : Nat} (h : nameN l = n) (h0 : n ≠ 0) : n ≤ l.length ∧ (regP (l.take n) || litP (l.take n)) = true := by
  cases l with
  | nil => exact absurd h.symm h0
  | cons c t =>
    unfold nameN at h
    simp only at h
    by_cases h91 : c = 91
    · rw [if_pos h91] at h
      split at h
      · exact absurd h.symm h0
      rename_i hl0
      split at h
      · rename_i hl1
        subst h
        have hlt : litN t < t.length := by
          rcases Nat.lt_or_ge (litN t) t.length with hh | hh
          · exact hh
          · rw [List.getElem?_eq_none hh] at hl1; cases hl1
        refine ⟨by simp only [List.length_cons]; omega, ?_⟩
        rw [Bool.or_eq_true]
        right
        have e : (c :: t).take (litN t + 2) = 91 :: (t.takeWhile litB ++ [93]) := by
          rw [h91, List.take_succ_cons, List.take_add_one, hl1]
          congr 2
          unfold litN
          exact (List.prefix_iff_eq_take.1 (List.takeWhile_prefix _)).symm
        rw [e]
        refine litP_mk (fun e => hl0 (by unfold litN; rw [e]; rfl)) (fun b hb => ?_)
        have := List.all_takeWhile (p := litB) (l := t)
        rw [List.all_eq_true] at this
        exact this b hb
      · exact absurd h.symm h0
    · rw [if_neg h91] at h
      cases hr : regF (c :: t) with
      | none => rw [hr] at h; exact absurd h.symm h0
      | some q =>
        rw [hr] at h
        have hq : q = n := h
        subst hq
        have := regF_some _ _ _ (Nat.le_refl _) hr
        refine ⟨this.1, ?_⟩
        rw [Bool.or_eq_true]
        left
        unfold regP
        rw [this.2, Bool.and_true]
        cases hq : q with
        | zero => exact absurd hq h0
        | succ _ => rfl
theorem nameN_of {p q : List UInt8} (h : (regP p || litP p) = true) (hq : ∀ c, q.head? = some c → c = 58) : nameN (p ++ q) = p.length ∧ p.length ≠ 0 := by
  rw [Bool.or_eq_true] at h
  rcases h with h | h
  · unfold regP at h
    rw [Bool.and_eq_true] at h
    cases p with
    | nil => exact absurd h.1 (by decide)
    | cons c t =>
      have h91 : c ≠ 91 := by
        rintro rfl
        have := regS_bad (c := 91) (by decide) (by decide) (by decide) (91 :: t) 0 (by simp)
        rw [this] at h
        exact absurd h.2 (by decide)
      refine ⟨?_, by simp⟩
      show (if c = 91 then _ else (regF ((c :: t) ++ q)).getD 0) = _
      rw [if_neg h91, regF_of _ (c :: t) q (Nat.le_refl _) h.2 (fun d hd => by rw [hq d hd]; exact ⟨by decide, by decide⟩)]
      rfl
  · obtain ⟨t, rfl, h1, h2⟩ := litP_of h
    refine ⟨?_, by simp⟩
    have e : litN (t ++ [93] ++ q) = t.length := by
      unfold litN
      rw [List.append_assoc, takeWhile_app t ([93] ++ q) h2 (fun c hc => by cases hc; decide)]
    show nameN (91 :: (t ++ [93] ++ q)) = _
    unfold nameN
    simp only
    rw [if_pos trivial, e, if_neg (fun (e : t.length = 0) => h1 (List.eq_nil_of_length_eq_zero e)), if_pos (by rw [List.append_assoc, List.getElem?_append_right (Nat.le_refl _), Nat.sub_self]; rfl)]
    simp
theorem numRes_bad {l : List UInt8} {c : UInt8} (h : c ∈ l) (hc : digB 10 c = false) (most : Int) : numRes l 10 most = (0, 3) := by
  unfold numRes
  have h1 : l.isEmpty = false := by cases l with
    | nil => cases h
    | cons _ _ => rfl
  have h2 : l.all (digB 10) = false := by
    rw [List.all_eq_false]
    exact ⟨c, h, by rw [hc]; decide⟩
  rw [h1, h2]
  rfl
theorem reg_mem {p : List UInt8} (h : regP p = true) {c : UInt8} (h1 : hxB c = false) (h2 : plainB c = false) (h3 : c ≠ 37) : c ∉ p := by
  intro hc
  unfold regP at h
  rw [regS_bad h1 h2 h3 p 0 hc, Bool.and_false] at h
  cases h
/-- The two ways to read a host come to the same. -/
theorem host_law (l : List UInt8) (I J : Int) (hI : (I = -1 ∧ ∀ k : Nat, l[k]? ≠ some 58) ∨ ∃ i : Nat, I = i ∧ l[i]? = some 58 ∧ ∀ k : Nat, i < k → l[k]? ≠ some 58)
    (hJ : (J = -1 ∧ ∀ k : Nat, l[k]? ≠ some 93) ∨ ∃ j : Nat, J = j ∧ l[j]? = some 93 ∧ ∀ k : Nat, k < j → l[k]? ≠ some 93) : hostP l I J = hostR l := by
  unfold hostP hostR
  cases he : l.isEmpty
  rotate_left
  · rfl
  simp only [Bool.false_eq_true, if_false]
  by_cases hno : I < J ∨ I < 0
  · rw [if_pos hno]
    by_cases hn : (regP l || litP l) = true
    · rw [if_pos hn]
      have := nameN_of (q := []) hn (fun c hc => by cases hc)
      rw [List.append_nil] at this
      rw [if_neg (by rw [this.1]; exact this.2), if_pos this.1]
    · rw [if_neg hn]
      by_cases h0 : nameN l = 0
      · rw [if_pos h0]
      rw [if_neg h0]
      obtain ⟨hle, hok⟩ := nameN_some rfl h0
      by_cases hlen : nameN l = l.length
      · rw [hlen, List.take_length] at hok
        exact absurd hok hn
      rw [if_neg hlen]
      by_cases h58 : l[nameN l]? = some 58
      · rw [if_neg (by rw [h58]; simp)]
        rcases hI with ⟨_, hI⟩ | ⟨i, rfl, hi, hI⟩
        · exact absurd h58 (hI _)
        have hni : nameN l ≤ i := by
          rcases Nat.lt_or_ge i (nameN l) with h | h
          · exact absurd h58 (hI _ h)
          · exact h
        rcases hJ with ⟨rfl, _⟩ | ⟨j, rfl, hj, hJ⟩
        · omega
        have hij : i < j := by omega
        have hbad : (93 : UInt8) ∈ l.drop (nameN l + 1) := by
          rw [List.mem_iff_getElem?]
          exact ⟨j - (nameN l + 1), by rw [List.getElem?_drop, show nameN l + 1 + (j - (nameN l + 1)) = j by omega]; exact hj⟩
        rw [numRes_bad hbad (by decide)]
        rfl
      · rw [if_pos h58]
  · rw [if_neg hno]
    rcases hI with ⟨rfl, _⟩ | ⟨i, rfl, hi, hI⟩
    · omega
    have hil : i < l.length := by
      rcases Nat.lt_or_ge i l.length with h | h
      · exact h
      · rw [List.getElem?_eq_none h] at hi; cases hi
    rw [Int.toNat_natCast]
    have hsp : l = l.take i ++ l.drop i := (List.take_append_drop i l).symm
    have hhd : (l.drop i).head? = some 58 := by rw [List.head?_drop]; exact hi
    by_cases hn : (regP (l.take i) || litP (l.take i)) = true
    · rw [if_pos hn]
      have := nameN_of (q := l.drop i) hn (fun c hc => by rw [hhd] at hc; exact (Option.some.inj hc).symm)
      rw [← hsp, List.length_take, Nat.min_eq_left (by omega)] at this
      rw [this.1, if_neg this.2, if_neg (by omega : ¬ i = l.length), if_neg (show ¬ (l[i]? ≠ some 58) by rw [hi]; simp)]
    · rw [if_neg hn]
      by_cases h0 : nameN l = 0
      · rw [if_pos h0]
      rw [if_neg h0]
      obtain ⟨hle, hok⟩ := nameN_some rfl h0
      by_cases hlen : nameN l = l.length
      · exfalso
        rw [hlen, List.take_length, Bool.or_eq_true] at hok
        rcases hok with h | h
        · exact reg_mem h (c := 58) (by decide) (by decide) (by decide) (List.mem_iff_getElem?.2 ⟨i, hi⟩)
        · obtain ⟨t, rfl, h1, h2⟩ := litP_of h
          have hlast : (91 :: (t ++ [93]))[t.length + 1]? = some (93 : UInt8) := by simp
          have hne : i ≠ t.length + 1 := by
            rintro rfl
            rw [hlast] at hi
            exact absurd (Option.some.inj hi) (by decide)
          have hit : i < t.length + 1 := by simp at hil; omega
          rcases hJ with ⟨rfl, hJ⟩ | ⟨j, rfl, hj, hJ⟩
          · exact hJ _ hlast
          have hij : j ≤ i := by omega
          cases j with
          | zero => simp at hj
          | succ j =>
            rw [List.getElem?_cons_succ, List.getElem?_append_left (by omega)] at hj
            have := h2 93 (List.mem_iff_getElem?.2 ⟨j, hj⟩)
            exact absurd this (by decide)
      rw [if_neg hlen]
      by_cases h58 : l[nameN l]? = some 58
      · rw [if_neg (by rw [h58]; simp)]
        have hni : nameN l ≤ i := by
          rcases Nat.lt_or_ge i (nameN l) with h | h
          · exact absurd h58 (hI _ h)
          · exact h
        rcases Nat.lt_or_ge (nameN l) i with hlt | hge
        · have hbad : (58 : UInt8) ∈ l.drop (nameN l + 1) := by
            rw [List.mem_iff_getElem?]
            exact ⟨i - (nameN l + 1), by rw [List.getElem?_drop, show nameN l + 1 + (i - (nameN l + 1)) = i by omega]; exact hi⟩
          rw [numRes_bad hbad (by decide)]
          rfl
        · have : nameN l = i := by omega
          rw [this] at hok
          exact absurd hok hn
      · rw [if_pos h58]
end Go.Proofs.YtbglakhojbhfbaaGreatDoor
