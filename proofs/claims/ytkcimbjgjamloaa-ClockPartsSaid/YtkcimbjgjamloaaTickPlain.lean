/- Tick, in plain words: what its two loops hold on to. -/
import Derived.Test.YtkcimbjgjamloaaTickCmp
namespace Go.Proofs.Ytkcimbjgjamloaa
open Go.RowKit Go.Maps Clk
theorem same_lit (a b : Int) : (Lit.int .i64 a).sameKey (.int .i64 b) = (a == b) := by
  by_cases h : a = b
  · subst h
    rw [beq_self_eq_true]
    exact Go.WideAt.sameKey_self (ik a)
  · rw [sameKey_ne (lit_ne h), beq_eq_false_iff_ne.2 h]
/-- What the first loop has met: ks, who are due; the map made on the way. -/
structure Met (l : List Rw) (now : Int) (left : Lit → Bool) (ks : List Int) (E : DataW Unit) : Prop where
  one : ks.Nodup
  who : ∀ k, k ∈ ks ↔ left (.int .i64 k) = false ∧ ∃ t, leftAt l k = some t ∧ t ≤ now
  wf : ∀ k ∈ ks, (Lit.int .i64 k).wf = true
  made : ∀ k ∈ ks, ∀ t, leftAt l k = some t → ∀ z, E.atKey (.int .i64 k) z = .lit (.int .i64 t)
theorem Met.start {l : List Rw} {D : DataW Unit} (h : Reads D l) (now : Int) : Met l now (Maps.has D) [] (.map []) where
  one := List.nodup_nil
  who k := by
    constructor
    · intro h; cases h
    · rintro ⟨a, t, b, _⟩
      rw [(h k).1, b] at a
      cases a
  wf k h := by cases h
  made k h := by cases h
theorem Reads.at {D : DataW Unit} {l : List Rw} (h : Reads D l) {x c : Int} (hat : ∀ z, D.atKey (.int .i64 x) z = .lit (.int .i64 c)) : leftAt l x = some c := by
  have h1 := has_true_of_atKey hat
  rw [(h x).1] at h1
  obtain ⟨t, ht⟩ := Option.isSome_iff_exists.1 h1
  have h2 := (h x).2 t ht (.lit (.int .i64 0))
  rw [hat] at h2
  have : c = t := by injection h2 with h2; injection h2
  rw [ht, this]
theorem Met.due {l : List Rw} {now : Int} {left : Lit → Bool} {ks : List Int} {E : DataW Unit} (h : Met l now left ks E) (hE : IsMap E) {x c : Int} (hx : left (.int .i64 x) = true) (hl : leftAt l x = some c) (hc : c ≤ now) (hw : (Lit.int .i64 x).wf = true) :
    Met l now (fun z => left z && !z.sameKey (.int .i64 x)) (ks ++ [x]) (E.put (.int .i64 x) (.lit (.int .i64 c))) where
  one := by
    rw [List.nodup_append]
    refine ⟨h.one, by simp, fun a ha b hb e => ?_⟩
    have : b = x := by simpa using hb
    subst this
    subst e
    have := ((h.who a).1 ha).1
    rw [hx] at this
    cases this
  who k := by
    rw [List.mem_append, List.mem_singleton, h.who, same_lit]
    constructor
    · rintro (⟨a, b⟩ | rfl)
      · exact ⟨by rw [a]; rfl, b⟩
      · exact ⟨by simp, c, hl, hc⟩
    · rintro ⟨a, b⟩
      by_cases e : k = x
      · exact Or.inr e
      · left
        refine ⟨?_, b⟩
        rw [beq_eq_false_iff_ne.2 e] at a
        simpa using a
  wf k hk := by
    rcases List.mem_append.1 hk with hk | hk
    · exact h.wf k hk
    · have : k = x := by simpa using hk
      subst this
      exact hw
  made k hk t ht z := by
    by_cases e : k = x
    · subst e
      rw [hl] at ht
      cases ht
      exact atKey_put_same hE (ik k) _ _
    · rw [atKey_put_other (lit_ne e)]
      rcases List.mem_append.1 hk with hk | hk
      · exact h.made k hk t ht z
      · exact absurd (by simpa using hk) e
theorem Met.not {l : List Rw} {now : Int} {left : Lit → Bool} {ks : List Int} {E : DataW Unit} (h : Met l now left ks E) {x c : Int} (hx : left (.int .i64 x) = true) (hl : leftAt l x = some c) (hc : ¬ c ≤ now) :
    Met l now (fun z => left z && !z.sameKey (.int .i64 x)) ks E where
  one := h.one
  who k := by
    rw [h.who, same_lit]
    constructor
    · rintro ⟨a, b⟩
      exact ⟨by rw [a]; rfl, b⟩
    · rintro ⟨a, b⟩
      by_cases e : k = x
      · subst e
        obtain ⟨t, b1, b2⟩ := b
        rw [hl] at b1
        cases b1
        exact absurd b2 hc
      · refine ⟨?_, b⟩
        rw [beq_eq_false_iff_ne.2 e] at a
        simpa using a
  wf := h.wf
  made := h.made
/-- The keys that were met, sorted: who is due. -/
theorem Met.sorted {l : List Rw} {now : Int} {left : Lit → Bool} {ks : List Int} {E : DataW Unit} (h : Met l now left ks E) (hl : ∀ k, left k = false) (h1 : One l) :
    ks.mergeSort (fun x y => le (x, timeOf E x) (y, timeOf E y)) = dueIds l now := by
  apply due_of_ids h1
  · exact h.one
  · intro k
    rw [h.who]
    constructor
    · rintro ⟨_, t, a, b⟩
      exact ⟨t, (leftAt_mem h1).1 a, b⟩
    · rintro ⟨t, a, b⟩
      exact ⟨hl _, t, (leftAt_mem h1).2 a, b⟩
  · intro p hp hd
    have ha : leftAt l p.1 = some p.2 := (leftAt_mem h1).2 hp
    exact timeOf_eq (h.made p.1 ((h.who _).2 ⟨hl _, p.2, ha, hd⟩) p.2 ha _)
theorem Met.wf_due {l : List Rw} {now : Int} {left : Lit → Bool} {ks : List Int} {E : DataW Unit} (h : Met l now left ks E) (hl : ∀ k, left k = false) (h1 : One l) : ∀ id ∈ dueIds l now, (Lit.int .i64 id).wf = true := by
  intro id hid
  obtain ⟨t, a, b⟩ := mem_dueIds.1 hid
  exact h.wf id ((h.who id).2 ⟨hl _, t, (leftAt_mem h1).2 a, b⟩)
theorem due_length {l : List Rw} {now : Int} {left : Lit → Bool} {ks : List Int} {E : DataW Unit} (h : Met l now left ks E) (hl : ∀ k, left k = false) (h1 : One l) : (dueIds l now).length = ks.length := by
  rw [← h.sorted hl h1, List.length_mergeSort]
/-- Rows but of those ids. -/
def drop (l : List Rw) (ids : List Int) : List Rw := l.filter fun p => !ids.contains p.1
theorem drop_nil (l : List Rw) : drop l [] = l := by unfold drop; rw [List.filter_eq_self]; intro p _; rfl
theorem drop_snoc (l : List Rw) (ids : List Int) (id : Int) : without (drop l ids) id = drop l (ids ++ [id]) := by
  unfold drop Clk.without
  rw [List.filter_filter]
  apply List.filter_congr
  intro p _
  rw [Bool.eq_iff_iff]
  simp
  exact ⟨fun ⟨a, b⟩ => ⟨b, a⟩, fun ⟨a, b⟩ => ⟨b, a⟩⟩
theorem drop_due {l : List Rw} (h1 : One l) (now : Int) : drop l (dueIds l now) = rest l now := by
  unfold drop rest
  apply List.filter_congr
  intro p hp
  congr 1
  rw [Bool.eq_iff_iff, List.contains_iff_mem, mem_dueIds]
  unfold isDue
  rw [decide_eq_true_iff]
  constructor
  · rintro ⟨t, a, b⟩
    have := h1.inj a hp rfl
    rw [← this]
    exact b
  · intro h
    exact ⟨p.2, hp, h⟩
end Go.Proofs.Ytkcimbjgjamloaa
