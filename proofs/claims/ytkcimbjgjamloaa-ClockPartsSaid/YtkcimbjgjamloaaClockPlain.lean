/- The clock in plain lists: who is due by a time, in order. -/
import Derived.WalkKit
namespace Go.Proofs.Ytkcimbjgjamloaa
namespace Clk
/-- A row: who, and when. -/
abbrev Rw := Int × Int
def without (l : List Rw) (id : Int) : List Rw := l.filter fun p => p.1 != id
def leftAt (l : List Rw) (id : Int) : Option Int := (l.find? fun p => p.1 == id).map fun p => p.2
def before (p q : Rw) : Bool := decide (p.2 < q.2) || (p.2 == q.2 && decide (p.1 < q.1))
def le (p q : Rw) : Bool := !before q p
def isDue (now : Int) (p : Rw) : Bool := decide (p.2 ≤ now)
def dueRows (l : List Rw) (now : Int) : List Rw := (l.filter (isDue now)).mergeSort le
def dueIds (l : List Rw) (now : Int) : List Int := (dueRows l now).map fun p => p.1
def rest (l : List Rw) (now : Int) : List Rw := l.filter fun p => !isDue now p
def One (l : List Rw) : Prop := (l.map fun p => p.1).Nodup
theorem before_iff (p q : Rw) : before p q = true ↔ p.2 < q.2 ∨ p.2 = q.2 ∧ p.1 < q.1 := by
  unfold before; simp
theorem le_iff (p q : Rw) : le p q = true ↔ p.2 < q.2 ∨ p.2 = q.2 ∧ p.1 ≤ q.1 := by
  unfold le
  rw [Bool.not_eq_true', ← Bool.not_eq_true, before_iff]
  omega
theorem le_trans (p q r : Rw) (h : le p q = true) (k : le q r = true) : le p r = true := by
  rw [le_iff] at *; omega
theorem le_total (p q : Rw) : (le p q || le q p) = true := by
  rw [Bool.or_eq_true, le_iff, le_iff]; omega
theorem le_anti (p q : Rw) (h : le p q = true) (k : le q p = true) : p = q := by
  rw [le_iff] at h k
  apply Prod.ext <;> omega
theorem sorted_eq {a b : List Rw} (ha : a.Pairwise fun p q => le p q = true) (hb : b.Pairwise fun p q => le p q = true) (h : a.Perm b) : a = b :=
  List.Perm.eq_of_pairwise (le := fun p q => le p q = true) (fun p q _ _ => le_anti p q) ha hb h
theorem due_sorted (l : List Rw) (now : Int) : (dueRows l now).Pairwise fun p q => le p q = true :=
  List.pairwise_mergeSort (fun a b c => le_trans a b c) (fun a b => le_total a b) _
theorem due_perm (l : List Rw) (now : Int) : (dueRows l now).Perm (l.filter (isDue now)) := List.mergeSort_perm _ _
theorem One.nodup {l : List Rw} (h : One l) : l.Nodup := (List.pairwise_map.1 h).imp fun h e => h (congrArg Prod.fst e)
theorem One.inj {l : List Rw} (h : One l) {p q : Rw} (hp : p ∈ l) (hq : q ∈ l) (e : p.1 = q.1) : p = q := by
  induction l with
  | nil => cases hp
  | cons a l ih =>
    unfold One at h ih
    rw [List.map_cons, List.nodup_cons] at h
    rcases List.mem_cons.1 hp with rfl | hp' <;> rcases List.mem_cons.1 hq with rfl | hq'
    · rfl
    · exact absurd (List.mem_map.2 ⟨q, hq', e.symm⟩) h.1
    · exact absurd (List.mem_map.2 ⟨p, hp', e⟩) h.1
    · exact ih h.2 hp' hq'
theorem One.filter {l : List Rw} (h : One l) (f : Rw → Bool) : One (l.filter f) := List.Nodup.sublist (List.Sublist.map _ List.filter_sublist) h
theorem One.without {l : List Rw} (h : One l) (id : Int) : One (without l id) := h.filter _
theorem mem_without {l : List Rw} {id : Int} {p : Rw} : p ∈ without l id ↔ p ∈ l ∧ p.1 ≠ id := by
  unfold Clk.without; rw [List.mem_filter]; simp
theorem One.put {l : List Rw} (h : One l) (id at' : Int) : One (Clk.without l id ++ [(id, at')]) := by
  unfold One
  rw [List.map_append, List.nodup_append]
  refine ⟨h.without id, by simp, ?_⟩
  intro a ha b hb
  obtain ⟨p, hp, rfl⟩ := List.mem_map.1 ha
  simp only [List.map_cons, List.map_nil, List.mem_singleton] at hb
  subst hb
  exact (mem_without.1 hp).2
/-- The first of those who are due, and the others. -/
theorem due_cons {l : List Rw} (h1 : One l) {p : Rw} (hp : p ∈ l) (now : Int) (hd : p.2 ≤ now) (hm : ∀ q ∈ l, q.2 ≤ now → ¬ (q.2 < p.2 ∨ q.2 = p.2 ∧ q.1 < p.1)) :
    dueIds l now = p.1 :: dueIds (Clk.without l p.1) now ∧ rest (Clk.without l p.1) now = rest l now := by
  constructor
  · have e : dueRows l now = p :: dueRows (Clk.without l p.1) now := by
      apply sorted_eq (due_sorted _ _)
      · rw [List.pairwise_cons]
        refine ⟨fun q hq => ?_, due_sorted _ _⟩
        have hq2 := (due_perm _ _).mem_iff.1 hq
        rw [List.mem_filter, mem_without] at hq2
        have hqd : q.2 ≤ now := by have := hq2.2; unfold isDue at this; simpa using this
        have := hm q hq2.1.1 hqd
        rw [le_iff]
        omega
      · refine (due_perm _ _).trans (List.Perm.trans ?_ (List.Perm.cons p (due_perm _ _).symm))
        rw [List.perm_ext_iff_of_nodup (List.Nodup.sublist List.filter_sublist h1.nodup)]
        · intro q
          rw [List.mem_cons, List.mem_filter, List.mem_filter, mem_without]
          constructor
          · rintro ⟨a, b⟩
            by_cases e : q.1 = p.1
            · exact Or.inl (h1.inj a hp e)
            · exact Or.inr ⟨⟨a, e⟩, b⟩
          · rintro (rfl | ⟨⟨a, _⟩, b⟩)
            · exact ⟨hp, by unfold isDue; simpa using hd⟩
            · exact ⟨a, b⟩
        · rw [List.nodup_cons]
          refine ⟨fun hc => ?_, List.Nodup.sublist List.filter_sublist (h1.without _).nodup⟩
          exact (mem_without.1 (List.mem_filter.1 hc).1).2 rfl
    unfold dueIds
    rw [e, List.map_cons]
  · unfold rest Clk.without
    rw [List.filter_filter]
    apply List.filter_congr
    intro q hq
    by_cases e : q.1 = p.1
    · have : q = p := h1.inj hq hp e
      subst this
      simp [isDue, hd]
    · simp [e]
theorem due_none {l : List Rw} (now : Int) (h : ∀ q ∈ l, ¬ q.2 ≤ now) : dueIds l now = [] ∧ rest l now = l := by
  constructor
  · have : l.filter (isDue now) = [] := by
      rw [List.filter_eq_nil_iff]
      intro q hq
      unfold isDue
      simpa using h q hq
    unfold dueIds dueRows
    rw [this, List.mergeSort_nil]
    rfl
  · unfold rest
    rw [List.filter_eq_self]
    intro q hq
    have := h q hq
    unfold isDue
    simpa using this
/-- Sorted by when, then by who: whatever order they were met in. -/
theorem due_of_ids {l : List Rw} (h1 : One l) (now : Int) (T : Int → Int) (ks : List Int) (hk : ks.Nodup) (hm : ∀ k, k ∈ ks ↔ ∃ t, (k, t) ∈ l ∧ t ≤ now) (hT : ∀ p ∈ l, p.2 ≤ now → T p.1 = p.2) :
    ks.mergeSort (fun x y => le (x, T x) (y, T y)) = dueIds l now := by
  have hs : (ks.mergeSort (fun x y => le (x, T x) (y, T y))).Pairwise fun x y => le (x, T x) (y, T y) = true :=
    List.pairwise_mergeSort (le := fun x y => le (x, T x) (y, T y)) (fun a b c => le_trans (a, T a) (b, T b) (c, T c)) (fun a b => le_total (a, T a) (b, T b)) ks
  have hp : (ks.mergeSort (fun x y => le (x, T x) (y, T y))).Perm ks := List.mergeSort_perm _ _
  have e : (ks.mergeSort (fun x y => le (x, T x) (y, T y))).map (fun k => (k, T k)) = dueRows l now := by
    apply sorted_eq _ (due_sorted _ _)
    · refine List.Perm.trans (hp.map _) (List.Perm.trans ?_ (due_perm _ _).symm)
      rw [List.perm_ext_iff_of_nodup]
      · intro q
        rw [List.mem_map, List.mem_filter]
        constructor
        · rintro ⟨k, hk', rfl⟩
          obtain ⟨t, ht, hd⟩ := (hm k).1 hk'
          have : T k = t := hT (k, t) ht hd
          rw [this]
          exact ⟨ht, by unfold isDue; simpa using hd⟩
        · rintro ⟨a, b⟩
          have hd : q.2 ≤ now := by unfold isDue at b; simpa using b
          exact ⟨q.1, (hm q.1).2 ⟨q.2, a, hd⟩, Prod.ext rfl (hT q a hd)⟩
      · rw [List.Nodup, List.pairwise_map]
        exact hk.imp fun h e => h (congrArg Prod.fst e)
      · exact List.Nodup.sublist List.filter_sublist h1.nodup
    · rw [List.pairwise_map]
      exact hs
  unfold dueIds
  rw [← e, List.map_map]
  simp [Function.comp_def]
/-- Two steps of time tell what one tells. -/
theorem due_append (l : List Rw) (s t : Int) (h : s ≤ t) : dueIds l s ++ dueIds (rest l s) t = dueIds l t ∧ rest (rest l s) t = rest l t := by
  constructor
  · have e : dueRows l s ++ dueRows (rest l s) t = dueRows l t := by
      apply sorted_eq _ (due_sorted _ _)
      · refine ((due_perm _ _).append (due_perm _ _)).trans (List.Perm.trans ?_ (due_perm _ _).symm)
        have : l.filter (isDue s) ++ (rest l s).filter (isDue t) = (l.filter (isDue t)).filter (isDue s) ++ (l.filter (isDue t)).filter (fun p => !isDue s p) := by
          unfold rest
          rw [List.filter_filter, List.filter_filter, List.filter_filter]
          congr 1 <;> apply List.filter_congr <;> intro q _ <;> unfold isDue <;> rw [Bool.eq_iff_iff] <;> simp <;> omega
        rw [this]
        exact List.filter_append_perm _ _
      · rw [List.pairwise_append]
        refine ⟨due_sorted _ _, due_sorted _ _, fun p hp q hq => ?_⟩
        have hp2 := (List.mem_filter.1 ((due_perm _ _).mem_iff.1 hp)).2
        have hq2 := (List.mem_filter.1 (List.mem_filter.1 ((due_perm _ _).mem_iff.1 hq)).1).2
        unfold isDue at hp2 hq2
        simp at hp2 hq2
        rw [le_iff]
        omega
    unfold dueIds
    rw [← List.map_append, e]
  · unfold rest
    rw [List.filter_filter]
    apply List.filter_congr
    intro q _
    unfold isDue
    rw [Bool.eq_iff_iff]
    simp
    omega
theorem mem_dueIds {l : List Rw} {now id : Int} : id ∈ dueIds l now ↔ ∃ t, (id, t) ∈ l ∧ t ≤ now := by
  unfold dueIds
  rw [List.mem_map]
  constructor
  · rintro ⟨q, hq, rfl⟩
    have := List.mem_filter.1 ((due_perm _ _).mem_iff.1 hq)
    exact ⟨q.2, this.1, by have h := this.2; unfold isDue at h; simpa using h⟩
  · rintro ⟨t, ht, hd⟩
    exact ⟨(id, t), (due_perm _ _).mem_iff.2 (List.mem_filter.2 ⟨ht, by unfold isDue; simpa using hd⟩), rfl⟩
theorem leftAt_mem {l : List Rw} (h : One l) {id t : Int} : leftAt l id = some t ↔ (id, t) ∈ l := by
  unfold leftAt
  rw [Option.map_eq_some_iff]
  constructor
  · rintro ⟨q, hq, rfl⟩
    have e := List.find?_some hq
    have m := List.mem_of_find?_eq_some hq
    have : q.1 = id := by simpa using e
    subst this
    exact m
  · intro hm
    cases hf : l.find? (fun p => p.1 == id) with
    | none =>
      have := List.find?_eq_none.1 hf (id, t) hm
      simp at this
    | some q =>
      have e := List.find?_some hf
      have m := List.mem_of_find?_eq_some hf
      have : q.1 = id := by simpa using e
      have hq : q = (id, t) := h.inj m hm this
      exact ⟨q, rfl, by rw [hq]⟩
theorem leftAt_none {l : List Rw} {id : Int} : leftAt l id = none ↔ ∀ p ∈ l, p.1 ≠ id := by
  unfold leftAt
  rw [Option.map_eq_none_iff, List.find?_eq_none]
  simp
theorem rest_mem {l : List Rw} {now : Int} {p : Rw} : p ∈ rest l now ↔ p ∈ l ∧ now < p.2 := by
  unfold rest isDue
  rw [List.mem_filter]
  simp
end Clk
end Go.Proofs.Ytkcimbjgjamloaa
