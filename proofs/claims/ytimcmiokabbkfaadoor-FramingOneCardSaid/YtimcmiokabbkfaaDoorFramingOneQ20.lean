/- Texts packed for one claim, 20 of 35: FieldAll FieldAllR. -/
import Derived.Test.YtimcmiokabbkfaaDoorFramingOneQ18
import Derived.Test.YtimcmiokabbkfaaDoorFramingOneQ19
set_option linter.unusedSimpArgs false
set_option linter.unusedVariables false
-- FieldAll
namespace Go.Proofs.YtimcmiokabbkfaaDoor
open Go.RowKit
/-- The fields of lines that are whole, or the first error. -/
def pAcc : List ByteArray → List Fd × Int
  | [] => ([], 0)
  | s :: l => if (fparse s).2 ≠ 0 then ([], (fparse s).2) else if (pAcc l).2 ≠ 0 then ([], (pAcc l).2) else ((fparse s).1 :: (pAcc l).1, 0)
theorem pAcc_ok : ∀ l : List ByteArray, (∀ k (h : k < l.length), (fparse l[k]).2 = 0) → pAcc l = (l.map fun s => (fparse s).1, 0)
  | [], _ => rfl
  | s :: l, h => by
    have h0 := h 0 (by simp)
    have h1 := pAcc_ok l (fun k hk => h (k + 1) (by simpa using hk))
    unfold pAcc
    rw [if_neg (by simpa using h0), h1]
    rfl
theorem pAcc_err : ∀ (l : List ByteArray) (k : Nat) (hk : k < l.length), (∀ j (h : j < l.length), j < k → (fparse l[j]).2 = 0) → (fparse l[k]).2 ≠ 0 → pAcc l = ([], (fparse l[k]).2)
  | [], _, hk, _, _ => absurd hk (Nat.not_lt_zero _)
  | s :: l, 0, _, _, h => by unfold pAcc; exact if_pos h
  | s :: l, k + 1, hk, h, he => by
    have h0 := h 0 (by simp) (Nat.succ_pos _)
    have hkl : k < l.length := by simpa using hk
    have h1 := pAcc_err l k hkl (fun j hj hjk => h (j + 1) (by simpa using hj) (by omega)) (by simpa using he)
    have he' : (fparse l[k]).2 ≠ 0 := by simpa using he
    unfold pAcc
    rw [if_neg (by simpa using h0), h1]
    show (if (fparse l[k]).2 ≠ 0 then (([] : List Fd), (fparse l[k]).2) else ((fparse s).1 :: [], 0)) = ([], (fparse l[k]).2)
    rw [if_pos he']
/-- What All answers. -/
def allF (fold : Int) (l : List ByteArray) : List Fd × Int := match ufold fold l with | none => ([], 3) | some out => pAcc out
/-- Row B: the call's own fields. -/
def OwnF (w : World) (B : Nat) (v : Value) (l : List Fd) : Prop := w.ownsRow B 56 2 v l.length (flat l)
theorem OwnF.start (w : World) (B : Nat) : OwnF w B (.slice none 0 0) [] := World.ownsRow_nil _ _ _ _
theorem OwnF.keep {P : Nat → Prop} {w w1 : World} {B : Nat} {v : Value} {l : List Fd} (h : OwnF w B v l) (ht : Touch P w w1) (hP : ∀ g, B ≤ g → ¬ P g) : OwnF w1 B v l := by
  obtain ⟨h1, h2⟩ := h
  refine ⟨h1, ?_⟩
  rcases h2 with h2 | ⟨g, cap, cur, hv, hB, hg, rest⟩
  · exact Or.inl h2
  · exact Or.inr ⟨g, cap, cur, hv, hB, (ht.block g ((Array.getElem?_eq_some_iff.1 hg).1) (hP g hB)).trans hg, rest⟩
theorem OwnF.call {w w1 : World} {B : Nat} {v : Value} {l : List Fd} (h : OwnF w B v l) (hb : Below w.heap.size w w1) : OwnF w1 B v l := h.keep (P := fun _ => False) (Touch.of_below hb) (fun _ _ => id)
theorem OwnF.alloc {w : World} {B : Nat} {v : Value} {l : List Fd} (h : OwnF w B v l) (o : Obj) : OwnF (w.alloc o) B v l := h.keep (P := fun _ => False) ((Touch.refl _ w).alloc o) (fun _ _ => id)
theorem OwnF.lower {w : World} {B B' : Nat} {v : Value} {l : List Fd} (h : OwnF w B v l) (hB : B' ≤ B) : OwnF w B' v l := by
  obtain ⟨h1, h2⟩ := h
  refine ⟨h1, ?_⟩
  rcases h2 with h2 | ⟨g, cap, cur, hv, hg, rest⟩
  · exact Or.inl h2
  · exact Or.inr ⟨g, cap, cur, hv, by omega, rest⟩
theorem OwnF.flds {w : World} {B : Nat} {v : Value} {l : List Fd} (h : OwnF w B v l) : Flds w v l := Flds.of_own h
theorem flat_set (f : Fd) : ∀ (l : List Fd) (i : Nat), i < l.length → ((flat l).set (i * 2) (.string f.1)).set (i * 2 + 1) (.string f.2) = flat (l.set i f)
  | [], _, h => absurd h (Nat.not_lt_zero _)
  | a :: l, 0, _ => rfl
  | a :: l, i + 1, h => by
    have := flat_set f l i (by simpa using h)
    show ((Value.string a.1 :: Value.string a.2 :: flat l).set ((i + 1) * 2) _).set ((i + 1) * 2 + 1) _ = Value.string a.1 :: Value.string a.2 :: flat (l.set i f)
    rw [show (i + 1) * 2 = i * 2 + 1 + 1 by omega]
    simp only [List.set_cons_succ]
    rw [this]
/-- A store of a whole field. -/
theorem OwnF.set {w : World} {B g cap : Nat} {l : List Fd} {n : Nat} (hn : n = l.length) (h : OwnF w B (.slice (some ⟨g, 0, none⟩) n cap) l) (i : Nat) (hi : i < l.length) (f : Fd) :
    OwnF ((w.setCell ⟨g, i * 2, none⟩ (.string f.1)).setCell ⟨g, i * 2 + 1, none⟩ (.string f.2)) B (.slice (some ⟨g, 0, none⟩) n cap) (l.set i f) := by
  subst hn
  have h1 := (World.ownsRow.stored h (i * 2) (.string f.1)).1
  have h2 := (World.ownsRow.stored h1 (i * 2 + 1) (.string f.2)).1
  rw [flat_set f l i hi] at h2
  show World.ownsRow _ _ _ _ _ (l.set i f).length _
  rw [List.length_set]
  exact h2
theorem OwnF.froz {w : World} {B g cap : Nat} {l : List Fd} {n : Nat} (hn : n = l.length) (h : OwnF w B (.slice (some ⟨g, 0, none⟩) n cap) l) (j : Nat) : w.frozen? ⟨g, j, none⟩ = false := by
  subst hn
  exact World.ownsRow.frozenAt h j
theorem OwnF.at {w : World} {B g cap : Nat} {l : List Fd} {n : Nat} (hn : n = l.length) (h : OwnF w B (.slice (some ⟨g, 0, none⟩) n cap) l) (k : Nat) (hk : k < n) : ∃ a b, w.cell? ⟨g, k * 2, none⟩ = some (.string a) ∧ w.cell? ⟨g, k * 2 + 1, none⟩ = some (.string b) := by
  subst hn
  have h1 := World.ownsRow.cellAt h (k * 2) (by omega)
  have h2 := World.ownsRow.cellAt h (k * 2 + 1) (by omega)
  obtain ⟨a1, a2⟩ := flat_at l k hk
  rw [Nat.mul_comm] at a1 a2
  exact ⟨_, _, h1.trans a1, h2.trans a2⟩
theorem made_flat (n : Nat) : (madeCells (Value.cells (.agg #[.string ⟨#[]⟩, .string ⟨#[]⟩])) (n * 2)).toList = flat (List.replicate n (⟨#[]⟩, ⟨#[]⟩)) := by
  apply List.ext_getElem?
  intro j
  by_cases hj : j < n * 2
  · have hl : j < (flat (List.replicate n ((⟨#[]⟩, ⟨#[]⟩) : Fd))).length := by rw [flat_length]; simpa using hj
    have hk : j / 2 < (List.replicate n ((⟨#[]⟩, ⟨#[]⟩) : Fd)).length := by simp; omega
    obtain ⟨a1, a2⟩ := flat_at (List.replicate n ((⟨#[]⟩, ⟨#[]⟩) : Fd)) (j / 2) hk
    rw [List.getElem_replicate] at a1 a2
    have e : (madeCells (Value.cells (.agg #[.string ⟨#[]⟩, .string ⟨#[]⟩])) (n * 2)).toList[j]? = some (.string ⟨#[]⟩) := by
      have h01 : j % 2 = 0 ∨ j % 2 = 1 := by omega
      rcases h01 with h01 | h01 <;> simp [madeCells, Value.cells, hj, h01]
    rw [e]
    rcases Nat.mod_two_eq_zero_or_one j with h | h
    · rw [show j = 2 * (j / 2) by omega, a1]
    · rw [show j = 2 * (j / 2) + 1 by omega, a2]
  · rw [List.getElem?_eq_none (by simp [madeCells]; omega), List.getElem?_eq_none (by rw [flat_length]; simp; omega)]
end Go.Proofs.YtimcmiokabbkfaaDoor
-- FieldAllR
namespace Go.Proofs.YtimcmiokabbkfaaDoor
open Go.RowKit
theorem OwnF.empty (w : World) : OwnF (w.alloc (.cells #[] 56)) w.heap.size (.slice (some ⟨w.heap.size, 0, none⟩) 0 0) [] := World.ownsRow_lit w #[] 0 (Nat.le_refl _) (by decide) rfl
/-- One field more behind the row. -/
theorem wpList_push_fld {ops : Array Oper} {rest : List Oper} {o : Oper} {a : Act} {Q : Exit → Act → World → Prop} (hgd : o.guard = none) (s x : Operand)
    (ho : o.op = .call { callee := .builtin .append, args := #[s, x], argTypes := #[22, 22] }) {w : World} {B : Nat} {v : Value} {l : List Fd} (hs : a.eval s = v) (hown : OwnF w B v l) (y1 y2 : ByteArray)
    (H : Nat) (hH : w.heap.size = H) (hx : a.eval x = .slice (some ⟨H, 0, none⟩) 1 1) (hl : l.length ≤ 1000000) (hB : B ≤ w.heap.size)
    (h : ∀ p c w1, OwnF w1 B (.slice p (l.length + 1) c) (l ++ [(y1, y2)]) → (w.alloc (.cells #[.string y1, .string y2] 56)).grownBy w1 v.ownBlock → Below B w w1 → wpList Tryd.prog ops Q rest (a.put o.dst (.slice p (l.length + 1) c)) w1) :
    wpList Tryd.prog ops Q (o :: rest) a (w.alloc (.cells #[.string y1, .string y2] 56)) := by
  subst hH
  obtain ⟨i0, hi, hz0, hz1, hz2⟩ := info_parts info_field
  have hown' : World.ownsRow (w.alloc (.cells #[.string y1, .string y2] 56)) B 56 2 v l.length (flat l) := World.ownsRow.alloc hown _
  have hlo := hown'.lt
  refine wpList_append_own _ hgd s x 22 ho B 56 i0 _ 2 32 Tryd.underlying22 hi hz0 hz1 hz2 rfl (by decide) v l.length (flat l) hs hown' ⟨w.heap.size, 0, none⟩ 1 1 [.string y1, .string y2] hx rfl ?c1 ?c2 ?c3 ?c4 ?c5 ?_
  case c1 => exact World.news_of_block (cs := #[.string y1, .string y2]) (t := 56) (fr := (0, 0)) (heap_alloc_new w _)
  case c2 => simp [Value.oneCell']
  case c3 => unfold maxLen; omega
  case c4 => omega
  case c5 => simp; omega
  intro v' w1 hown1 hg _
  obtain ⟨p', c', rfl⟩ := own_slice hown1
  refine h p' c' w1 ?_ hg (((Below.refl _ _).alloc hB _).grown hg (by simp; omega) (fun j hj => by have := (hlo j hj).1; omega))
  show w1.ownsRow B 56 2 _ (l ++ [(y1, y2)]).length (flat (l ++ [(y1, y2)]))
  rw [List.length_append, flat_append]
  exact hown1
end Go.Proofs.YtimcmiokabbkfaaDoor
