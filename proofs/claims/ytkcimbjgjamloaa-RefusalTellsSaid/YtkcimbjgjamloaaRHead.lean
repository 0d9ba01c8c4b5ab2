/- refusal.Head: both sides. -/
import Derived.Test.YtkcimbjgjamloaaPut
import Derived.Test.YtkcimbjgjamloaaRefHead
namespace Go.Proofs.Ytkcimbjgjamloaa
open Go.RowKit
/-- The fields of a refusal's head, its date's text T. -/
def hdL (T : ByteArray) : List Fd := (if T.toList.isEmpty then [] else [(⟨#[68, 97, 116, 101]⟩, T)]) ++ [(⟨#[67, 111, 110, 116, 101, 110, 116, 45, 76, 101, 110, 103, 116, 104]⟩, ⟨#[48]⟩), (⟨#[67, 111, 110, 110, 101, 99, 116, 105, 111, 110]⟩, ⟨#[99, 108, 111, 115, 101]⟩)]
theorem blk_below {g : Nat} {w w' : World} {g0 : Nat} {cs : Array Value} {t : TypeId} (h : Blk w g0 cs t) (hb : Below g w w') (hlt : g0 < g) : Blk w' g0 cs t := h.below hb hlt
set_option maxRecDepth 100000 in
set_option maxHeartbeats 1000000 in
theorem head_none (st minor now : Int) (T : ByteArray) (h1 : -9223372036854775808 ≤ minor) (h2 : minor ≤ 9223372036854775807) (hT : T.toList.isEmpty = true) (hP : ∀ W : World, Calls Try.prog 32 #[.int .i64 now] W fun e w' => e = .returned (.string T) ∧ Below W.heap.size W w') (w : World) :
    Calls Try.prog 9 #[.int .i64 st, .int .i64 minor, .int .i64 now] w fun e w' => ∃ f, e = .returned (.agg #[.string ⟨#[]⟩, .string ⟨#[]⟩, .int .i64 (verN minor), .int .i64 st, .string (reasonS st), f]) ∧ Flds w' f (hdL T) ∧ Below w.heap.size w w' := by
  have HK := Lib.hid (fun W => version_any minor h1 h2 W)
  have HR : Hid (∀ W, Calls Try.prog 30 #[.int .i64 st] W fun e w' => e = .returned (.string (reasonS st)) ∧ Below W.heap.size W w') := fun W => (reason_any st W).mono fun _ _ ⟨a, b⟩ => ⟨a, by rw [← b]; exact Below.refl _ _⟩
  have HP := Lib.hid hP
  have HL : Hid (hdL T = [(⟨#[67, 111, 110, 116, 101, 110, 116, 45, 76, 101, 110, 103, 116, 104]⟩, ⟨#[48]⟩), (⟨#[67, 111, 110, 110, 101, 99, 116, 105, 111, 110]⟩, ⟨#[99, 108, 111, 115, 101]⟩)]) := by
    show hdL T = _
    unfold hdL
    rw [hT]
    rfl
  obtain rfl : T = ⟨#[]⟩ := by
    have e := List.isEmpty_iff.1 hT
    rw [ByteArray.toList_eq] at e
    exact ByteArray.ext (Array.toList_inj.1 e)
  clear hT
  obtain ⟨v, hv⟩ : ∃ v, v = verN minor := ⟨_, rfl⟩
  obtain ⟨R, hR⟩ : ∃ R, R = reasonS st := ⟨_, rfl⟩
  rw [← hv] at HK ⊢
  rw [← hR] at HR ⊢
  clear hv hR hP h1 h2
  go_enter Try.func9, Try.ntmps9
  go_wp2_with (first | (go_at_call 29; refine (HK.out _).mono ?_; rintro e' w' ⟨rfl, rfl⟩) | (go_at_call 30; refine (HR.out _).mono ?_; rintro e' w2 ⟨rfl, hb⟩; have HB := Lib.hid hb; clear hb) | (go_at_call 32; refine (HP.out _).mono ?_; rintro e' w3 ⟨rfl, hb⟩; have HB3 := Lib.hid hb; clear hb))
  have z2 : w.heap.size + 1 ≤ w2.heap.size := by have := HB.out.size; simp at this; omega
  have z3 : w2.heap.size + 1 ≤ w3.heap.size := by have := HB3.out.size; simp at this; omega
  have hz0 : Blk w3 w.heap.size #[.string ⟨#[]⟩, .string ⟨#[]⟩, .int .i64 0, .int .i64 0, .string ⟨#[]⟩, .slice none 0 0] 29 := ((((Blk.new w _ _).call HB.out).alloc _).call HB3.out)
  have hz1 : Blk w3 w2.heap.size #[.string ⟨#[]⟩, .string ⟨#[]⟩, .int .i64 v, .int .i64 st, .string R, .slice none 0 0] 29 := (Blk.new w2 _ _).call HB3.out
  have hu : Below w.heap.size w w3 := ((((Below.refl _ _).alloc (Nat.le_refl _) _).trans (HB.out.mono (by simp))).alloc (by omega) _).trans (HB3.out.mono (by simp; omega))
  clear HB HB3 HK HR HP
  obtain ⟨B, hB⟩ : ∃ B, B = w2.heap.size + 1 := ⟨_, rfl⟩
  obtain ⟨g, hg⟩ : ∃ g, g = w2.heap.size := ⟨_, rfl⟩
  have hgB : g < B := by omega
  have hg0 : w.heap.size < g := by omega
  have hB3 : B ≤ w3.heap.size := by omega
  rw [← hg] at hz1 ⊢
  have ho0 : w3.ownsRow B 64 2 (.slice none 0 0) ([] : List Fd).length (flat []) := World.ownsRow_nil _ _ _ _
  clear hB hg z2 z3
  have H0 := Lib.hid (And.intro hz0 (And.intro hz1 (And.intro hu (And.intro hB3 ho0))))
  clear hz0 hz1 hu hB3 ho0
  refine (put_none _ _ _).mono ?_
  rintro e' w' ⟨rfl, rfl⟩
  go_wp2_with fail
  refine (put_any ⟨#[67, 111, 110, 116, 101, 110, 116, 45, 76, 101, 110, 103, 116, 104]⟩ ⟨#[48]⟩ (by rw [ByteArray.toList_eq]; rfl) g B _ _ _ _ _ _ ([]) _ H0.out.2.1 H0.out.2.2.2.2 hgB H0.out.2.2.2.1 (by simp)).mono ?_
  rintro e' u0 ⟨rfl, fv0, k1, k2, k3, k4⟩
  have H1 := Lib.hid (And.intro (blk_below H0.out.1 k4 hg0) (And.intro k1 (And.intro (H0.out.2.2.1.trans (k4.mono (Nat.le_of_lt hg0))) (And.intro k3 k2))))
  clear k1 k2 k3 k4 H0
  go_wp2_with fail
  refine (put_any ⟨#[67, 111, 110, 110, 101, 99, 116, 105, 111, 110]⟩ ⟨#[99, 108, 111, 115, 101]⟩ (by rw [ByteArray.toList_eq]; rfl) g B _ _ _ _ _ _ ([] ++ [(⟨#[67, 111, 110, 116, 101, 110, 116, 45, 76, 101, 110, 103, 116, 104]⟩, ⟨#[48]⟩)]) _ H1.out.2.1 H1.out.2.2.2.2 hgB H1.out.2.2.2.1 (by simp)).mono ?_
  rintro e' u1 ⟨rfl, fv1, k1, k2, k3, k4⟩
  have H2 := Lib.hid (And.intro (blk_below H1.out.1 k4 hg0) (And.intro k1 (And.intro (H1.out.2.2.1.trans (k4.mono (Nat.le_of_lt hg0))) (And.intro k3 k2))))
  clear k1 k2 k3 k4 H1
  obtain ⟨p', c', hfv⟩ := own_slice H2.out.2.2.2.2
  subst hfv
  have c0 := H2.out.2.1.cell 0
  have c1 := H2.out.2.1.cell 1
  have c2 := H2.out.2.1.cell 2
  have c3 := H2.out.2.1.cell 3
  have c4 := H2.out.2.1.cell 4
  have c5 := H2.out.2.1.cell 5
  have d0 := H2.out.1.cell 0
  have d1 := H2.out.1.cell 1
  have d2 := H2.out.1.cell 2
  have d3 := H2.out.1.cell 3
  have d4 := H2.out.1.cell 4
  have d5 := H2.out.1.cell 5
  have f0 := H2.out.1.froz 0
  have f1 := H2.out.1.froz 1
  have f2 := H2.out.1.froz 2
  have f3 := H2.out.1.froz 3
  have f4 := H2.out.1.froz 4
  have f5 := H2.out.1.froz 5
  simp at c0 c1 c2 c3 c4 c5 d0 d1 d2 d3 d4 d5
  go_wp2_with fail
  exact bodyPost_ret (results_cell_row Try.results9 _ _ _ _ _ _ _ rfl (blk_set6 H2.out.1 _ _ _ _ _ _) Try.underlying29 rfl (by kernel_rfl)) rfl ⟨_, rfl, by rw [HL.out]; exact Flds.of_own (own_set6 H2.out.2.2.2.2 (Nat.lt_trans hg0 hgB) _ _ _ _ _ _), below_set6 H2.out.2.2.1 (Nat.le_refl _) _ _ _ _ _ _⟩
set_option maxRecDepth 100000 in
set_option maxHeartbeats 1000000 in
theorem head_some (st minor now : Int) (T : ByteArray) (h1 : -9223372036854775808 ≤ minor) (h2 : minor ≤ 9223372036854775807) (hT : T.toList.isEmpty = false) (hP : ∀ W : World, Calls Try.prog 32 #[.int .i64 now] W fun e w' => e = .returned (.string T) ∧ Below W.heap.size W w') (w : World) :
    Calls Try.prog 9 #[.int .i64 st, .int .i64 minor, .int .i64 now] w fun e w' => ∃ f, e = .returned (.agg #[.string ⟨#[]⟩, .string ⟨#[]⟩, .int .i64 (verN minor), .int .i64 st, .string (reasonS st), f]) ∧ Flds w' f (hdL T) ∧ Below w.heap.size w w' := by
  have HK := Lib.hid (fun W => version_any minor h1 h2 W)
  have HR : Hid (∀ W, Calls Try.prog 30 #[.int .i64 st] W fun e w' => e = .returned (.string (reasonS st)) ∧ Below W.heap.size W w') := fun W => (reason_any st W).mono fun _ _ ⟨a, b⟩ => ⟨a, by rw [← b]; exact Below.refl _ _⟩
  have HP := Lib.hid hP
  have HL : Hid (hdL T = [(⟨#[68, 97, 116, 101]⟩, T)] ++ [(⟨#[67, 111, 110, 116, 101, 110, 116, 45, 76, 101, 110, 103, 116, 104]⟩, ⟨#[48]⟩), (⟨#[67, 111, 110, 110, 101, 99, 116, 105, 111, 110]⟩, ⟨#[99, 108, 111, 115, 101]⟩)]) := by
    show hdL T = _
    unfold hdL
    rw [hT]
    rfl
  have hT2 : T.toList.isEmpty = false := hT
  clear hT
  obtain ⟨v, hv⟩ : ∃ v, v = verN minor := ⟨_, rfl⟩
  obtain ⟨R, hR⟩ : ∃ R, R = reasonS st := ⟨_, rfl⟩
  rw [← hv] at HK ⊢
  rw [← hR] at HR ⊢
  clear hv hR hP h1 h2
  go_enter Try.func9, Try.ntmps9
  go_wp2_with (first | (go_at_call 29; refine (HK.out _).mono ?_; rintro e' w' ⟨rfl, rfl⟩) | (go_at_call 30; refine (HR.out _).mono ?_; rintro e' w2 ⟨rfl, hb⟩; have HB := Lib.hid hb; clear hb) | (go_at_call 32; refine (HP.out _).mono ?_; rintro e' w3 ⟨rfl, hb⟩; have HB3 := Lib.hid hb; clear hb))
  have z2 : w.heap.size + 1 ≤ w2.heap.size := by have := HB.out.size; simp at this; omega
  have z3 : w2.heap.size + 1 ≤ w3.heap.size := by have := HB3.out.size; simp at this; omega
  have hz0 : Blk w3 w.heap.size #[.string ⟨#[]⟩, .string ⟨#[]⟩, .int .i64 0, .int .i64 0, .string ⟨#[]⟩, .slice none 0 0] 29 := ((((Blk.new w _ _).call HB.out).alloc _).call HB3.out)
  have hz1 : Blk w3 w2.heap.size #[.string ⟨#[]⟩, .string ⟨#[]⟩, .int .i64 v, .int .i64 st, .string R, .slice none 0 0] 29 := (Blk.new w2 _ _).call HB3.out
  have hu : Below w.heap.size w w3 := ((((Below.refl _ _).alloc (Nat.le_refl _) _).trans (HB.out.mono (by simp))).alloc (by omega) _).trans (HB3.out.mono (by simp; omega))
  clear HB HB3 HK HR HP
  obtain ⟨B, hB⟩ : ∃ B, B = w2.heap.size + 1 := ⟨_, rfl⟩
  obtain ⟨g, hg⟩ : ∃ g, g = w2.heap.size := ⟨_, rfl⟩
  have hgB : g < B := by omega
  have hg0 : w.heap.size < g := by omega
  have hB3 : B ≤ w3.heap.size := by omega
  rw [← hg] at hz1 ⊢
  have ho0 : w3.ownsRow B 64 2 (.slice none 0 0) ([] : List Fd).length (flat []) := World.ownsRow_nil _ _ _ _
  clear hB hg z2 z3
  have H0 := Lib.hid (And.intro hz0 (And.intro hz1 (And.intro hu (And.intro hB3 ho0))))
  clear hz0 hz1 hu hB3 ho0
  refine (put_any ⟨#[68, 97, 116, 101]⟩ T hT2 g B _ _ _ _ _ _ ([]) _ H0.out.2.1 H0.out.2.2.2.2 hgB H0.out.2.2.2.1 (by simp)).mono ?_
  rintro e' u0 ⟨rfl, fv0, k1, k2, k3, k4⟩
  have H1 := Lib.hid (And.intro (blk_below H0.out.1 k4 hg0) (And.intro k1 (And.intro (H0.out.2.2.1.trans (k4.mono (Nat.le_of_lt hg0))) (And.intro k3 k2))))
  clear k1 k2 k3 k4 H0
  go_wp2_with fail
  refine (put_any ⟨#[67, 111, 110, 116, 101, 110, 116, 45, 76, 101, 110, 103, 116, 104]⟩ ⟨#[48]⟩ (by rw [ByteArray.toList_eq]; rfl) g B _ _ _ _ _ _ ([] ++ [(⟨#[68, 97, 116, 101]⟩, T)]) _ H1.out.2.1 H1.out.2.2.2.2 hgB H1.out.2.2.2.1 (by simp)).mono ?_
  rintro e' u1 ⟨rfl, fv1, k1, k2, k3, k4⟩
  have H2 := Lib.hid (And.intro (blk_below H1.out.1 k4 hg0) (And.intro k1 (And.intro (H1.out.2.2.1.trans (k4.mono (Nat.le_of_lt hg0))) (And.intro k3 k2))))
  clear k1 k2 k3 k4 H1
  go_wp2_with fail
  refine (put_any ⟨#[67, 111, 110, 110, 101, 99, 116, 105, 111, 110]⟩ ⟨#[99, 108, 111, 115, 101]⟩ (by rw [ByteArray.toList_eq]; rfl) g B _ _ _ _ _ _ ([] ++ [(⟨#[68, 97, 116, 101]⟩, T)] ++ [(⟨#[67, 111, 110, 116, 101, 110, 116, 45, 76, 101, 110, 103, 116, 104]⟩, ⟨#[48]⟩)]) _ H2.out.2.1 H2.out.2.2.2.2 hgB H2.out.2.2.2.1 (by simp)).mono ?_
  rintro e' u2 ⟨rfl, fv2, k1, k2, k3, k4⟩
  have H3 := Lib.hid (And.intro (blk_below H2.out.1 k4 hg0) (And.intro k1 (And.intro (H2.out.2.2.1.trans (k4.mono (Nat.le_of_lt hg0))) (And.intro k3 k2))))
  clear k1 k2 k3 k4 H2
  obtain ⟨p', c', hfv⟩ := own_slice H3.out.2.2.2.2
  subst hfv
  have c0 := H3.out.2.1.cell 0
  have c1 := H3.out.2.1.cell 1
  have c2 := H3.out.2.1.cell 2
  have c3 := H3.out.2.1.cell 3
  have c4 := H3.out.2.1.cell 4
  have c5 := H3.out.2.1.cell 5
  have d0 := H3.out.1.cell 0
  have d1 := H3.out.1.cell 1
  have d2 := H3.out.1.cell 2
  have d3 := H3.out.1.cell 3
  have d4 := H3.out.1.cell 4
  have d5 := H3.out.1.cell 5
  have f0 := H3.out.1.froz 0
  have f1 := H3.out.1.froz 1
  have f2 := H3.out.1.froz 2
  have f3 := H3.out.1.froz 3
  have f4 := H3.out.1.froz 4
  have f5 := H3.out.1.froz 5
  simp at c0 c1 c2 c3 c4 c5 d0 d1 d2 d3 d4 d5
  go_wp2_with fail
  exact bodyPost_ret (results_cell_row Try.results9 _ _ _ _ _ _ _ rfl (blk_set6 H3.out.1 _ _ _ _ _ _) Try.underlying29 rfl (by kernel_rfl)) rfl ⟨_, rfl, by rw [HL.out]; exact Flds.of_own (own_set6 H3.out.2.2.2.2 (Nat.lt_trans hg0 hgB) _ _ _ _ _ _), below_set6 H3.out.2.2.1 (Nat.le_refl _) _ _ _ _ _ _⟩
end Go.Proofs.Ytkcimbjgjamloaa
