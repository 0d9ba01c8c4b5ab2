/- Package clock: New, Now, Set, Stop, Left, at any clock. -/
import Derived.Test.YtkcimbjgjamloaaClockPlain
import Derived.Test.YtkcimbjgjamloaaCl
import Derived.Maps.OwnSet
import Derived.Maps.OwnOps
import Derived.Maps.RangeWalk
import Derived.IntWalk
namespace Go.Proofs.Ytkcimbjgjamloaa
open Go.RowKit Go.Maps Clk
theorem mlaw : Keyed Try.prog 3 := int_keyed Try.underlying3
theorem mzero (w : World) : (zeroValue 3).run Try.prog w = .ok (.int .i64 0) w := by kernel_rfl
/-- A number of ticks that may be. -/
def withinZ (n : Int) : Int := if n < 0 then 0 else if 1073741824 < n then 1073741824 else n
theorem withinZ_range (n : Int) : 0 ≤ withinZ n ∧ withinZ n ≤ 1073741824 := by
  unfold withinZ
  split
  · omega
  · split <;> omega
/-- The map reads as these rows. -/
def Reads (D : DataW Unit) (l : List Rw) : Prop := ∀ id : Int, Maps.has D (.int .i64 id) = (leftAt l id).isSome ∧ ∀ t, leftAt l id = some t → ∀ z, D.atKey (.int .i64 id) z = .lit (.int .i64 t)
theorem reads_nil : Reads (.map []) [] := fun _ => ⟨rfl, fun _ h => by cases h⟩
theorem leftAt_put_same (l : List Rw) (id t : Int) : leftAt (without l id ++ [(id, t)]) id = some t := by
  unfold leftAt without
  rw [List.find?_append]
  have : (l.filter fun p => p.1 != id).find? (fun p => p.1 == id) = none := by
    rw [List.find?_eq_none]
    intro p hp
    have := (List.mem_filter.1 hp).2
    simpa using this
  rw [this]
  simp
theorem leftAt_without_other (l : List Rw) {id k : Int} (h : k ≠ id) : leftAt (without l id) k = leftAt l k := by
  unfold leftAt without
  congr 1
  exact find_filter_keep (fun p hp => by have : p.1 = k := by simpa using hp
                                         simp [this, h]) l
theorem leftAt_without_same (l : List Rw) (id : Int) : leftAt (without l id) id = none := leftAt_none.2 fun p hp => (mem_without.1 hp).2
theorem leftAt_put_other (l : List Rw) {id k : Int} (t : Int) (h : k ≠ id) : leftAt (without l id ++ [(id, t)]) k = leftAt l k := by
  rw [← leftAt_without_other l h]
  unfold leftAt
  rw [List.find?_append]
  have : ([(id, t)] : List Rw).find? (fun p => p.1 == k) = none := by
    rw [List.find?_eq_none]
    intro p hp
    have : p = (id, t) := by simpa using hp
    subst this
    simpa using fun e => h (Eq.symm e)
  rw [this]
  cases (without l id).find? (fun p => p.1 == k) <;> rfl
theorem lit_ne {a b : Int} (h : a ≠ b) : (Lit.int .i64 a) ≠ .int .i64 b := fun e => h (by injection e)
theorem ik (k : Int) : WideAt.IsKeyLit (.int .i64 k) := trivial
theorem Reads.put {D : DataW Unit} {l : List Rw} (h : Reads D l) (hm : IsMap D) (id t : Int) : Reads (D.put (.int .i64 id) (.lit (.int .i64 t))) (without l id ++ [(id, t)]) := by
  intro k
  by_cases hk : k = id
  · subst hk
    refine ⟨?_, fun u hu z => ?_⟩
    · rw [has_put_same hm (ik k), leftAt_put_same]; rfl
    · rw [leftAt_put_same] at hu
      cases hu
      exact atKey_put_same hm (ik k) _ _
  · refine ⟨?_, fun u hu z => ?_⟩
    · rw [has_put_other (lit_ne hk), leftAt_put_other l t hk]; exact (h k).1
    · rw [leftAt_put_other l t hk] at hu
      rw [atKey_put_other (lit_ne hk)]
      exact (h k).2 u hu z
theorem Reads.del {D : DataW Unit} {l : List Rw} (h : Reads D l) (id : Int) : Reads (D.del (.int .i64 id)) (without l id) := by
  intro k
  by_cases hk : k = id
  · subst hk
    refine ⟨?_, fun u hu z => ?_⟩
    · rw [has_del_same, leftAt_without_same]; rfl
    · rw [leftAt_without_same] at hu; cases hu
  · refine ⟨?_, fun u hu z => ?_⟩
    · rw [has_del_other (lit_ne hk), leftAt_without_other l hk]; exact (h k).1
    · rw [leftAt_without_other l hk] at hu
      rw [atKey_del_other (lit_ne hk)]
      exact (h k).2 u hu z
/-- A clock at block g: its time, and, in the map at block b, who is due when. -/
structure Clock (w : World) (g b n : Nat) (now : Int) (l : List Rw) : Prop where
  c : Blk w g #[.int .i64 now, .map (some b)] 68
  m : ∃ D, w.ownsMap Try.prog 3 (plainElem Try.prog 3) b n D ∧ Reads D l
section
variable {w w' : World} {g b n : Nat} {now : Int} {l : List Rw}
theorem own_heap {D : DataW Unit} (h : w.ownsMap Try.prog 3 (plainElem Try.prog 3) b n D) (e : w'.heap[b]? = w.heap[b]?) : w'.ownsMap Try.prog 3 (plainElem Try.prog 3) b n D := by
  unfold World.ownsMap at h ⊢
  rw [e]
  exact h
theorem Clock.ne (h : Clock w g b n now l) : g ≠ b := by
  rintro rfl
  obtain ⟨D, ⟨es, cl, hb, _⟩, _⟩ := h.m
  have := h.c
  unfold Blk at this
  rw [hb] at this
  cases this
theorem Clock.lt (h : Clock w g b n now l) : b < w.heap.size := by obtain ⟨D, hD, _⟩ := h.m; exact hD.lt
theorem Clock.touch {P : Nat → Prop} (h : Clock w g b n now l) (ht : Touch P w w') (hg : ¬ P g) (hb : ¬ P b) : Clock w' g b n now l := by
  obtain ⟨D, hD, hr⟩ := h.m
  exact ⟨h.c.touch ht hg, D, own_heap hD (ht.block b hD.lt hb), hr⟩
theorem Clock.mono (h : Clock w g b n now l) {n' : Nat} (hn : n ≤ n') : Clock w g b n' now l := by
  obtain ⟨D, hD, hr⟩ := h.m
  exact ⟨h.c, D, hD.mono hn, hr⟩
theorem Touch.of_grown {P : Nat → Prop} {row : Option Nat} (h : w.grownBy w' row) (hP : ∀ k, row = some k → P k) : Touch P w w' := ⟨h.os, h.tape, h.output, h.size, fun k hk hp => h.block k hk fun e => hp (hP k e.symm)⟩
end
theorem within_any (n : Int) (w : World) : Calls Try.prog 35 #[.int .i64 n] w fun e w' => e = .returned (.int .i64 (withinZ n)) ∧ w = w' := by
  by_cases h0 : n < 0
  · have HV : Hid (withinZ n = 0) := by show withinZ n = 0; unfold withinZ; rw [if_pos h0]
    have h1 : n ≤ -1 := by omega
    clear h0
    go_enter Try.func35, Try.ntmps35
    go_wp2_with fail
    go_ret
    rw [HV.out]
    exact ⟨rfl, rfl⟩
  · by_cases h2 : 1073741824 < n
    · have HV : Hid (withinZ n = 1073741824) := by show withinZ n = _; unfold withinZ; rw [if_neg h0, if_pos h2]
      clear h0
      go_enter Try.func35, Try.ntmps35
      go_wp2_with fail
      go_ret
      rw [HV.out]
      exact ⟨rfl, rfl⟩
    · have HV : Hid (withinZ n = n) := by show withinZ n = _; unfold withinZ; rw [if_neg h0, if_neg h2]
      by_cases hn : n = 0
      · subst hn
        clear h0 h2
        go_enter Try.func35, Try.ntmps35
        go_wp2_with fail
        go_ret
        rw [HV.out]
        exact ⟨rfl, rfl⟩
      · have h3 : 1 ≤ n := by omega
        have h4 : n ≤ 1073741824 := by omega
        clear h0 h2 hn
        go_enter Try.func35, Try.ntmps35
        go_wp2_with fail
        go_ret
        rw [HV.out]
        exact ⟨rfl, rfl⟩
theorem rwithin_any (n : Int) (w : World) : Calls Try.prog 18 #[.int .i64 n] w fun e w' => e = .returned (.int .i64 (withinZ n)) ∧ w = w' := by
  by_cases h0 : n < 0
  · have HV : Hid (withinZ n = 0) := by show withinZ n = 0; unfold withinZ; rw [if_pos h0]
    go_enter Try.func18, Try.ntmps18
    go_wp2_with fail
    go_ret
    rw [HV.out]
    exact ⟨rfl, rfl⟩
  · have h3 : 0 ≤ n := by omega
    by_cases h2 : 1073741824 < n
    · have HV : Hid (withinZ n = 1073741824) := by show withinZ n = _; unfold withinZ; rw [if_neg h0, if_pos h2]
      clear h0
      go_enter Try.func18, Try.ntmps18
      go_wp2_with fail
      go_ret
      rw [HV.out]
      exact ⟨rfl, rfl⟩
    · have HV : Hid (withinZ n = n) := by show withinZ n = _; unfold withinZ; rw [if_neg h0, if_neg h2]
      have h4 : n ≤ 1073741824 := by omega
      clear h0 h2
      go_enter Try.func18, Try.ntmps18
      go_wp2_with fail
      go_ret
      rw [HV.out]
      exact ⟨rfl, rfl⟩
theorem new_none (now : Int) (h : now < -281474976710656 ∨ 281474976710656 < now) (w : World) : Calls Try.prog 14 #[.int .i64 now] w fun e w' => e = .returned (.pointer none) ∧ w = w' := by
  rcases h with h | h
  · go_enter Try.func14, Try.ntmps14
    go_wp2_with fail
    go_ret
    exact ⟨rfl, rfl⟩
  · have h' : ¬ now < -281474976710656 := by omega
    go_enter Try.func14, Try.ntmps14
    go_wp2_with fail
    go_ret
    exact ⟨rfl, rfl⟩
theorem new_some (now : Int) (h : -281474976710656 ≤ now) (h' : now ≤ 281474976710656) (w : World) : Calls Try.prog 14 #[.int .i64 now] w fun e w' => ∃ g b, e = .returned (.pointer (some ⟨g, 0, none⟩)) ∧ Clock w' g b 0 now [] ∧ w.heap.size ≤ b ∧ w.heap.size ≤ g ∧ Below w.heap.size w w' := by
  have hmm := @run_makeMap Try.prog
  go_enter Try.func14, Try.ntmps14
  go_wp2_with fail
  go_ret
  have hz : (w.alloc (.map #[] 0)).heap.size = w.heap.size + 1 := by simp
  refine ⟨w.heap.size + 1, w.heap.size, rfl, ⟨?_, .map [], ?_, reads_nil⟩, Nat.le_refl _, by omega, ((Below.refl _ _).alloc (Nat.le_refl _) _).alloc (by simp) _⟩
  · exact Blk.new' hz.symm
  · exact (World.ownsMap_made w Try.prog 3 _).alloc _
theorem now_any {w : World} {g b n : Nat} {now : Int} {l : List Rw} (h : Clock w g b n now l) : Calls Try.prog 25 #[.pointer (some ⟨g, 0, none⟩)] w fun e w' => e = .returned (.int .i64 now) ∧ w = w' := by
  have q0 : w.cell? ⟨g, 0, none⟩ = some (.int .i64 now) := h.c.cell 0
  clear h
  go_enter Try.func25, Try.ntmps25
  go_wp2_with fail
  go_ret
  exact ⟨rfl, rfl⟩
end Go.Proofs.Ytkcimbjgjamloaa
