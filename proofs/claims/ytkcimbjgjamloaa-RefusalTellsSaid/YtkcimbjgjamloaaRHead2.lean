/- The reference's refusal.Head. -/
import Derived.Test.YtkcimbjgjamloaaRHead
namespace Go.Proofs.Ytkcimbjgjamloaa
open Go.RowKit
set_option maxRecDepth 100000 in
set_option maxHeartbeats 1000000 in
theorem rhead_e1 (st minor now : Int) (T : ByteArray) (hm : 0 < minor) (hT : T.toList.isEmpty = true) (hP : ∀ W : World, Calls Try.prog 34 #[.int .i64 now] W fun e w' => e = .returned (.string T) ∧ Below W.heap.size W w') (w : World) :
    Calls Try.prog 10 #[.int .i64 st, .int .i64 minor, .int .i64 now] w fun e w' => ∃ f, e = .returned (.agg #[.string ⟨#[]⟩, .string ⟨#[]⟩, .int .i64 (verN minor), .int .i64 st, .string (reasonS st), f]) ∧ Flds w' f (hdL T) ∧ Below w.heap.size w w' := by
  obtain ⟨i0, hi, hz0, hz1, hz2⟩ := info_parts info_field
  have HR := Lib.hid (fun W => rreason_any st W)
  have HP := Lib.hid hP
  have HL : Hid (hdL T = [(⟨#[67, 111, 110, 116, 101, 110, 116, 45, 76, 101, 110, 103, 116, 104]⟩, ⟨#[48]⟩), (⟨#[67, 111, 110, 110, 101, 99, 116, 105, 111, 110]⟩, ⟨#[99, 108, 111, 115, 101]⟩)]) := by
    show hdL T = _
    unfold hdL
    rw [hT]
    rfl
  have hV : verN minor = 1 := by unfold verN; rw [if_pos hm]
  rw [hV]
  clear hV
  obtain rfl : T = ⟨#[]⟩ := by
    have e := List.isEmpty_iff.1 hT
    rw [ByteArray.toList_eq] at e
    exact ByteArray.ext (Array.toList_inj.1 e)
  clear hT
  obtain ⟨R, hR⟩ : ∃ R, R = reasonS st := ⟨_, rfl⟩
  rw [← hR] at HR ⊢
  clear hR hP
  go_enter Try.func10, Try.ntmps10
  go_wp2_with (first | (go_at_call 33; refine (HR.out _).mono ?_; rintro e' w2 ⟨rfl, hb⟩; have HB := Lib.hid hb; clear hb) | (go_at_call 34; refine (HP.out _).mono ?_))
  rintro e' w3 ⟨rfl, hb⟩
  have HB3 := Lib.hid hb
  clear hb
  have z2 : w.heap.size + 1 ≤ w2.heap.size := by have := HB.out.size; simp at this; omega
  have z3 : w2.heap.size + 1 ≤ w3.heap.size := by have := HB3.out.size; simp at this; omega
  have hz0 : Blk w3 w.heap.size #[.string ⟨#[]⟩, .string ⟨#[]⟩, .int .i64 0, .int .i64 0, .string ⟨#[]⟩, .slice none 0 0] 29 := ((((Blk.new w _ _).call HB.out).alloc _).call HB3.out)
  have hz1 : Blk w3 w2.heap.size #[.string ⟨#[]⟩, .string ⟨#[]⟩, .int .i64 1, .int .i64 st, .string R, .slice none 0 0] 29 := (Blk.new w2 _ _).call HB3.out
  have hu : Below w.heap.size w w3 := ((((Below.refl _ _).alloc (Nat.le_refl _) _).trans (HB.out.mono (by simp))).alloc (by omega) _).trans (HB3.out.mono (by simp; omega))
  clear HB HB3 HR HP
  obtain ⟨B, hB⟩ : ∃ B, B = w2.heap.size + 1 := ⟨_, rfl⟩
  obtain ⟨g, hg⟩ : ∃ g, g = w2.heap.size := ⟨_, rfl⟩
  have hgB : g < B := by omega
  have hg0 : w.heap.size < g := by omega
  have hB3 : B ≤ w3.heap.size := by omega
  rw [← hg] at hz1 ⊢
  have ho0 : w3.ownsRow B 64 2 (.slice none 0 0) 0 [] := World.ownsRow_nil _ _ _ _
  have q5 : w3.cell? ⟨g, 5, none⟩ = some (.slice none 0 0) := hz1.cell 5
  have f5 : w3.frozen? ⟨g, 5, none⟩ = false := hz1.froz 5
  have hgl : g < w3.heap.size := by omega
  clear hB hg z2 z3
  have H0 := Lib.hid (And.intro hz0 (And.intro hz1 (And.intro hu (And.intro hB3 ho0))))
  clear hz0 hz1 hu hB3 ho0
  go_wp2_with (at_builtin; refine wpList_append_own _ rfl _ _ 27 rfl B 64 i0 _ 2 32 Try.underlying27 hi hz0 hz1 hz2 rfl (by decide) _ _ _ rfl (H0.out.2.2.2.2.alloc _) ⟨w3.heap.size, 0, none⟩ 2 2 [.string ⟨#[67, 111, 110, 116, 101, 110, 116, 45, 76, 101, 110, 103, 116, 104]⟩, .string ⟨#[48]⟩, .string ⟨#[67, 111, 110, 110, 101, 99, 116, 105, 111, 110]⟩, .string ⟨#[99, 108, 111, 115, 101]⟩] rfl rfl ?c1 ?c2 ?c3 ?c4 ?c5 ?_)
  case c1 => exact World.news_of_block (cs := #[.string ⟨#[67, 111, 110, 116, 101, 110, 116, 45, 76, 101, 110, 103, 116, 104]⟩, .string ⟨#[48]⟩, .string ⟨#[67, 111, 110, 110, 101, 99, 116, 105, 111, 110]⟩, .string ⟨#[99, 108, 111, 115, 101]⟩]) (t := 64) (fr := (0, 0)) (Blk.new' (w := w3) (by simp [World.setCell]))
  case c2 => simp [Value.oneCell']
  case c3 => unfold maxLen; omega
  case c4 => omega
  case c5 => have := H0.out.2.2.2.1; first | omega | (simp [World.setCell]; omega)
  intro v0 x0 hown hgrow _
  (try simp only [Nat.zero_add, List.nil_append] at hown)
  obtain ⟨p0, c0, hvv⟩ := own_slice hown
  subst hvv
  have hlo := (H0.out.2.2.2.2.alloc (.cells #[.string ⟨#[67, 111, 110, 116, 101, 110, 116, 45, 76, 101, 110, 103, 116, 104]⟩, .string ⟨#[48]⟩, .string ⟨#[67, 111, 110, 110, 101, 99, 116, 105, 111, 110]⟩, .string ⟨#[99, 108, 111, 115, 101]⟩] 64)).lt
  have k1 := blk_grown (H0.out.1.alloc (.cells #[.string ⟨#[67, 111, 110, 116, 101, 110, 116, 45, 76, 101, 110, 103, 116, 104]⟩, .string ⟨#[48]⟩, .string ⟨#[67, 111, 110, 110, 101, 99, 116, 105, 111, 110]⟩, .string ⟨#[99, 108, 111, 115, 101]⟩] 64)) hgrow (fun h => by have := (hlo _ h).1; omega)
  have k2 := blk_grown (H0.out.2.1.alloc (.cells #[.string ⟨#[67, 111, 110, 116, 101, 110, 116, 45, 76, 101, 110, 103, 116, 104]⟩, .string ⟨#[48]⟩, .string ⟨#[67, 111, 110, 110, 101, 99, 116, 105, 111, 110]⟩, .string ⟨#[99, 108, 111, 115, 101]⟩] 64)) hgrow (fun h => by have := (hlo _ h).1; omega)
  have k3 : Below w.heap.size w x0 := (H0.out.2.2.1.alloc (by have := H0.out.2.2.2.1; first | omega | (simp [World.setCell]; omega)) _).grown hgrow (by have := H0.out.2.2.2.1; first | omega | (simp [World.setCell]; omega)) (fun j hj => by have := (hlo j hj).1; omega)
  have k4 : B ≤ x0.heap.size := by have h1 := hgrow.size; have := H0.out.2.2.2.1; simp [World.setCell] at h1; omega
  clear q5 f5 hgl
  have q5 : x0.cell? ⟨g, 5, none⟩ = some _ := k2.cell 5
  have f5 : x0.frozen? ⟨g, 5, none⟩ = false := k2.froz 5
  have hgl : g < x0.heap.size := by omega
  have k5 : Blk (x0.setCell ⟨g, 5, none⟩ (.slice p0 2 c0)) g #[.string ⟨#[]⟩, .string ⟨#[]⟩, .int .i64 1, .int .i64 st, .string R, .slice p0 2 c0] 29 := by
    have := k2.set 5 (.slice p0 2 c0)
    simp at this
    exact this
  have k6 : Blk (x0.setCell ⟨g, 5, none⟩ (.slice p0 2 c0)) w.heap.size #[.string ⟨#[]⟩, .string ⟨#[]⟩, .int .i64 0, .int .i64 0, .string ⟨#[]⟩, .slice none 0 0] 29 := k1.far (by show w.heap.size ≠ g; omega) _
  have k7 : (x0.setCell ⟨g, 5, none⟩ (.slice p0 2 c0)).ownsRow B 64 2 (.slice p0 2 c0) 2 _ := own_set hown hgB 5 _
  have K0 := Lib.hid (And.intro k6 (And.intro k5 (And.intro (k3.setCell (show w.heap.size ≤ g by omega) (.slice p0 2 c0) : Below w.heap.size w (x0.setCell ⟨g, 5, none⟩ (.slice p0 2 c0))) (And.intro k4 k7))))
  clear k1 k2 k3 k4 k5 k6 k7 hown hgrow hlo H0
  have c0 := K0.out.2.1.cell 0
  have c1 := K0.out.2.1.cell 1
  have c2 := K0.out.2.1.cell 2
  have c3 := K0.out.2.1.cell 3
  have c4 := K0.out.2.1.cell 4
  have c5 := K0.out.2.1.cell 5
  have d0 := K0.out.1.cell 0
  have d1 := K0.out.1.cell 1
  have d2 := K0.out.1.cell 2
  have d3 := K0.out.1.cell 3
  have d4 := K0.out.1.cell 4
  have d5 := K0.out.1.cell 5
  have f0 := K0.out.1.froz 0
  have f1 := K0.out.1.froz 1
  have f2 := K0.out.1.froz 2
  have f3 := K0.out.1.froz 3
  have f4 := K0.out.1.froz 4
  have f6 := K0.out.1.froz 5
  simp at c0 c1 c2 c3 c4 c5 d0 d1 d2 d3 d4 d5
  go_wp2_with fail
  exact bodyPost_ret (results_cell_row Try.results10 _ _ _ _ _ _ _ rfl (blk_set6 K0.out.1 _ _ _ _ _ _) Try.underlying29 rfl (by kernel_rfl)) rfl ⟨_, rfl, by rw [HL.out]; exact Flds.of_own (own_set6 K0.out.2.2.2.2 (Nat.lt_trans hg0 hgB) _ _ _ _ _ _), below_set6 K0.out.2.2.1 (Nat.le_refl _) _ _ _ _ _ _⟩
set_option maxRecDepth 100000 in
set_option maxHeartbeats 1000000 in
theorem rhead_e0 (st minor now : Int) (T : ByteArray) (hm : minor ≤ 0) (hT : T.toList.isEmpty = true) (hP : ∀ W : World, Calls Try.prog 34 #[.int .i64 now] W fun e w' => e = .returned (.string T) ∧ Below W.heap.size W w') (w : World) :
    Calls Try.prog 10 #[.int .i64 st, .int .i64 minor, .int .i64 now] w fun e w' => ∃ f, e = .returned (.agg #[.string ⟨#[]⟩, .string ⟨#[]⟩, .int .i64 (verN minor), .int .i64 st, .string (reasonS st), f]) ∧ Flds w' f (hdL T) ∧ Below w.heap.size w w' := by
  obtain ⟨i0, hi, hz0, hz1, hz2⟩ := info_parts info_field
  have HR := Lib.hid (fun W => rreason_any st W)
  have HP := Lib.hid hP
  have HL : Hid (hdL T = [(⟨#[67, 111, 110, 116, 101, 110, 116, 45, 76, 101, 110, 103, 116, 104]⟩, ⟨#[48]⟩), (⟨#[67, 111, 110, 110, 101, 99, 116, 105, 111, 110]⟩, ⟨#[99, 108, 111, 115, 101]⟩)]) := by
    show hdL T = _
    unfold hdL
    rw [hT]
    rfl
  have hV : verN minor = 0 := by unfold verN; rw [if_neg (by omega)]
  rw [hV]
  clear hV
  obtain rfl : T = ⟨#[]⟩ := by
    have e := List.isEmpty_iff.1 hT
    rw [ByteArray.toList_eq] at e
    exact ByteArray.ext (Array.toList_inj.1 e)
  clear hT
  obtain ⟨R, hR⟩ : ∃ R, R = reasonS st := ⟨_, rfl⟩
  rw [← hR] at HR ⊢
  clear hR hP
  go_enter Try.func10, Try.ntmps10
  go_wp2_with (first | (go_at_call 33; refine (HR.out _).mono ?_; rintro e' w2 ⟨rfl, hb⟩; have HB := Lib.hid hb; clear hb) | (go_at_call 34; refine (HP.out _).mono ?_))
  rintro e' w3 ⟨rfl, hb⟩
  have HB3 := Lib.hid hb
  clear hb
  have z2 : w.heap.size + 1 ≤ w2.heap.size := by have := HB.out.size; simp at this; omega
  have z3 : w2.heap.size + 1 ≤ w3.heap.size := by have := HB3.out.size; simp at this; omega
  have hz0 : Blk w3 w.heap.size #[.string ⟨#[]⟩, .string ⟨#[]⟩, .int .i64 0, .int .i64 0, .string ⟨#[]⟩, .slice none 0 0] 29 := ((((Blk.new w _ _).call HB.out).alloc _).call HB3.out)
  have hz1 : Blk w3 w2.heap.size #[.string ⟨#[]⟩, .string ⟨#[]⟩, .int .i64 0, .int .i64 st, .string R, .slice none 0 0] 29 := (Blk.new w2 _ _).call HB3.out
  have hu : Below w.heap.size w w3 := ((((Below.refl _ _).alloc (Nat.le_refl _) _).trans (HB.out.mono (by simp))).alloc (by omega) _).trans (HB3.out.mono (by simp; omega))
  clear HB HB3 HR HP
  obtain ⟨B, hB⟩ : ∃ B, B = w2.heap.size + 1 := ⟨_, rfl⟩
  obtain ⟨g, hg⟩ : ∃ g, g = w2.heap.size := ⟨_, rfl⟩
  have hgB : g < B := by omega
  have hg0 : w.heap.size < g := by omega
  have hB3 : B ≤ w3.heap.size := by omega
  rw [← hg] at hz1 ⊢
  have ho0 : w3.ownsRow B 64 2 (.slice none 0 0) 0 [] := World.ownsRow_nil _ _ _ _
  have q5 : w3.cell? ⟨g, 5, none⟩ = some (.slice none 0 0) := hz1.cell 5
  have f5 : w3.frozen? ⟨g, 5, none⟩ = false := hz1.froz 5
  have hgl : g < w3.heap.size := by omega
  clear hB hg z2 z3
  have H0 := Lib.hid (And.intro hz0 (And.intro hz1 (And.intro hu (And.intro hB3 ho0))))
  clear hz0 hz1 hu hB3 ho0
  go_wp2_with (at_builtin; refine wpList_append_own _ rfl _ _ 27 rfl B 64 i0 _ 2 32 Try.underlying27 hi hz0 hz1 hz2 rfl (by decide) _ _ _ rfl (H0.out.2.2.2.2.alloc _) ⟨w3.heap.size, 0, none⟩ 2 2 [.string ⟨#[67, 111, 110, 116, 101, 110, 116, 45, 76, 101, 110, 103, 116, 104]⟩, .string ⟨#[48]⟩, .string ⟨#[67, 111, 110, 110, 101, 99, 116, 105, 111, 110]⟩, .string ⟨#[99, 108, 111, 115, 101]⟩] rfl rfl ?c1 ?c2 ?c3 ?c4 ?c5 ?_)
  case c1 => exact World.news_of_block (cs := #[.string ⟨#[67, 111, 110, 116, 101, 110, 116, 45, 76, 101, 110, 103, 116, 104]⟩, .string ⟨#[48]⟩, .string ⟨#[67, 111, 110, 110, 101, 99, 116, 105, 111, 110]⟩, .string ⟨#[99, 108, 111, 115, 101]⟩]) (t := 64) (fr := (0, 0)) (Blk.new' (w := w3) (by simp [World.setCell]))
  case c2 => simp [Value.oneCell']
  case c3 => unfold maxLen; omega
  case c4 => omega
  case c5 => have := H0.out.2.2.2.1; first | omega | (simp [World.setCell]; omega)
  intro v0 x0 hown hgrow _
  (try simp only [Nat.zero_add, List.nil_append] at hown)
  obtain ⟨p0, c0, hvv⟩ := own_slice hown
  subst hvv
  have hlo := (H0.out.2.2.2.2.alloc (.cells #[.string ⟨#[67, 111, 110, 116, 101, 110, 116, 45, 76, 101, 110, 103, 116, 104]⟩, .string ⟨#[48]⟩, .string ⟨#[67, 111, 110, 110, 101, 99, 116, 105, 111, 110]⟩, .string ⟨#[99, 108, 111, 115, 101]⟩] 64)).lt
  have k1 := blk_grown (H0.out.1.alloc (.cells #[.string ⟨#[67, 111, 110, 116, 101, 110, 116, 45, 76, 101, 110, 103, 116, 104]⟩, .string ⟨#[48]⟩, .string ⟨#[67, 111, 110, 110, 101, 99, 116, 105, 111, 110]⟩, .string ⟨#[99, 108, 111, 115, 101]⟩] 64)) hgrow (fun h => by have := (hlo _ h).1; omega)
  have k2 := blk_grown (H0.out.2.1.alloc (.cells #[.string ⟨#[67, 111, 110, 116, 101, 110, 116, 45, 76, 101, 110, 103, 116, 104]⟩, .string ⟨#[48]⟩, .string ⟨#[67, 111, 110, 110, 101, 99, 116, 105, 111, 110]⟩, .string ⟨#[99, 108, 111, 115, 101]⟩] 64)) hgrow (fun h => by have := (hlo _ h).1; omega)
  have k3 : Below w.heap.size w x0 := (H0.out.2.2.1.alloc (by have := H0.out.2.2.2.1; first | omega | (simp [World.setCell]; omega)) _).grown hgrow (by have := H0.out.2.2.2.1; first | omega | (simp [World.setCell]; omega)) (fun j hj => by have := (hlo j hj).1; omega)
  have k4 : B ≤ x0.heap.size := by have h1 := hgrow.size; have := H0.out.2.2.2.1; simp [World.setCell] at h1; omega
  clear q5 f5 hgl
  have q5 : x0.cell? ⟨g, 5, none⟩ = some _ := k2.cell 5
  have f5 : x0.frozen? ⟨g, 5, none⟩ = false := k2.froz 5
  have hgl : g < x0.heap.size := by omega
  have k5 : Blk (x0.setCell ⟨g, 5, none⟩ (.slice p0 2 c0)) g #[.string ⟨#[]⟩, .string ⟨#[]⟩, .int .i64 0, .int .i64 st, .string R, .slice p0 2 c0] 29 := by
    have := k2.set 5 (.slice p0 2 c0)
    simp at this
    exact this
  have k6 : Blk (x0.setCell ⟨g, 5, none⟩ (.slice p0 2 c0)) w.heap.size #[.string ⟨#[]⟩, .string ⟨#[]⟩, .int .i64 0, .int .i64 0, .string ⟨#[]⟩, .slice none 0 0] 29 := k1.far (by show w.heap.size ≠ g; omega) _
  have k7 : (x0.setCell ⟨g, 5, none⟩ (.slice p0 2 c0)).ownsRow B 64 2 (.slice p0 2 c0) 2 _ := own_set hown hgB 5 _
  have K0 := Lib.hid (And.intro k6 (And.intro k5 (And.intro (k3.setCell (show w.heap.size ≤ g by omega) (.slice p0 2 c0) : Below w.heap.size w (x0.setCell ⟨g, 5, none⟩ (.slice p0 2 c0))) (And.intro k4 k7))))
  clear k1 k2 k3 k4 k5 k6 k7 hown hgrow hlo H0
  have c0 := K0.out.2.1.cell 0
  have c1 := K0.out.2.1.cell 1
  have c2 := K0.out.2.1.cell 2
  have c3 := K0.out.2.1.cell 3
  have c4 := K0.out.2.1.cell 4
  have c5 := K0.out.2.1.cell 5
  have d0 := K0.out.1.cell 0
  have d1 := K0.out.1.cell 1
  have d2 := K0.out.1.cell 2
  have d3 := K0.out.1.cell 3
  have d4 := K0.out.1.cell 4
  have d5 := K0.out.1.cell 5
  have f0 := K0.out.1.froz 0
  have f1 := K0.out.1.froz 1
  have f2 := K0.out.1.froz 2
  have f3 := K0.out.1.froz 3
  have f4 := K0.out.1.froz 4
  have f6 := K0.out.1.froz 5
  simp at c0 c1 c2 c3 c4 c5 d0 d1 d2 d3 d4 d5
  go_wp2_with fail
  exact bodyPost_ret (results_cell_row Try.results10 _ _ _ _ _ _ _ rfl (blk_set6 K0.out.1 _ _ _ _ _ _) Try.underlying29 rfl (by kernel_rfl)) rfl ⟨_, rfl, by rw [HL.out]; exact Flds.of_own (own_set6 K0.out.2.2.2.2 (Nat.lt_trans hg0 hgB) _ _ _ _ _ _), below_set6 K0.out.2.2.1 (Nat.le_refl _) _ _ _ _ _ _⟩
set_option maxRecDepth 100000 in
set_option maxHeartbeats 1000000 in
theorem rhead_s1 (st minor now : Int) (T : ByteArray) (hm : 0 < minor) (hT : T.toList.isEmpty = false) (hP : ∀ W : World, Calls Try.prog 34 #[.int .i64 now] W fun e w' => e = .returned (.string T) ∧ Below W.heap.size W w') (w : World) :
    Calls Try.prog 10 #[.int .i64 st, .int .i64 minor, .int .i64 now] w fun e w' => ∃ f, e = .returned (.agg #[.string ⟨#[]⟩, .string ⟨#[]⟩, .int .i64 (verN minor), .int .i64 st, .string (reasonS st), f]) ∧ Flds w' f (hdL T) ∧ Below w.heap.size w w' := by
  obtain ⟨i0, hi, hz0, hz1, hz2⟩ := info_parts info_field
  have HR := Lib.hid (fun W => rreason_any st W)
  have HP := Lib.hid hP
  have HL : Hid (hdL T = [(⟨#[68, 97, 116, 101]⟩, T)] ++ [(⟨#[67, 111, 110, 116, 101, 110, 116, 45, 76, 101, 110, 103, 116, 104]⟩, ⟨#[48]⟩), (⟨#[67, 111, 110, 110, 101, 99, 116, 105, 111, 110]⟩, ⟨#[99, 108, 111, 115, 101]⟩)]) := by
    show hdL T = _
    unfold hdL
    rw [hT]
    rfl
  have hV : verN minor = 1 := by unfold verN; rw [if_pos hm]
  rw [hV]
  clear hV
  have hT2 : T.toList.isEmpty = false := hT
  clear hT
  obtain ⟨R, hR⟩ : ∃ R, R = reasonS st := ⟨_, rfl⟩
  rw [← hR] at HR ⊢
  clear hR hP
  go_enter Try.func10, Try.ntmps10
  go_wp2_with (first | (go_at_call 33; refine (HR.out _).mono ?_; rintro e' w2 ⟨rfl, hb⟩; have HB := Lib.hid hb; clear hb) | (go_at_call 34; refine (HP.out _).mono ?_))
  rintro e' w3 ⟨rfl, hb⟩
  have HB3 := Lib.hid hb
  clear hb
  have z2 : w.heap.size + 1 ≤ w2.heap.size := by have := HB.out.size; simp at this; omega
  have z3 : w2.heap.size + 1 ≤ w3.heap.size := by have := HB3.out.size; simp at this; omega
  have hz0 : Blk w3 w.heap.size #[.string ⟨#[]⟩, .string ⟨#[]⟩, .int .i64 0, .int .i64 0, .string ⟨#[]⟩, .slice none 0 0] 29 := ((((Blk.new w _ _).call HB.out).alloc _).call HB3.out)
  have hz1 : Blk w3 w2.heap.size #[.string ⟨#[]⟩, .string ⟨#[]⟩, .int .i64 1, .int .i64 st, .string R, .slice none 0 0] 29 := (Blk.new w2 _ _).call HB3.out
  have hu : Below w.heap.size w w3 := ((((Below.refl _ _).alloc (Nat.le_refl _) _).trans (HB.out.mono (by simp))).alloc (by omega) _).trans (HB3.out.mono (by simp; omega))
  clear HB HB3 HR HP
  obtain ⟨B, hB⟩ : ∃ B, B = w2.heap.size + 1 := ⟨_, rfl⟩
  obtain ⟨g, hg⟩ : ∃ g, g = w2.heap.size := ⟨_, rfl⟩
  have hgB : g < B := by omega
  have hg0 : w.heap.size < g := by omega
  have hB3 : B ≤ w3.heap.size := by omega
  rw [← hg] at hz1 ⊢
  have ho0 : w3.ownsRow B 64 2 (.slice none 0 0) 0 [] := World.ownsRow_nil _ _ _ _
  have q5 : w3.cell? ⟨g, 5, none⟩ = some (.slice none 0 0) := hz1.cell 5
  have f5 : w3.frozen? ⟨g, 5, none⟩ = false := hz1.froz 5
  have hgl : g < w3.heap.size := by omega
  clear hB hg z2 z3
  have H0 := Lib.hid (And.intro hz0 (And.intro hz1 (And.intro hu (And.intro hB3 ho0))))
  clear hz0 hz1 hu hB3 ho0
  go_wp2_with (at_builtin; refine wpList_append_own _ rfl _ _ 27 rfl B 64 i0 _ 2 32 Try.underlying27 hi hz0 hz1 hz2 rfl (by decide) _ _ _ rfl (H0.out.2.2.2.2.alloc _) ⟨w3.heap.size, 0, none⟩ 1 1 [.string ⟨#[68, 97, 116, 101]⟩, .string T] rfl rfl ?c1 ?c2 ?c3 ?c4 ?c5 ?_)
  case c1 => exact World.news_of_block (cs := #[.string ⟨#[68, 97, 116, 101]⟩, .string T]) (t := 64) (fr := (0, 0)) (Blk.new' (w := w3) (by simp [World.setCell]))
  case c2 => simp [Value.oneCell']
  case c3 => unfold maxLen; omega
  case c4 => omega
  case c5 => have := H0.out.2.2.2.1; first | omega | (simp [World.setCell]; omega)
  intro v0 x0 hown hgrow _
  (try simp only [Nat.zero_add, List.nil_append] at hown)
  obtain ⟨p0, c0, hvv⟩ := own_slice hown
  subst hvv
  have hlo := (H0.out.2.2.2.2.alloc (.cells #[.string ⟨#[68, 97, 116, 101]⟩, .string T] 64)).lt
  have k1 := blk_grown (H0.out.1.alloc (.cells #[.string ⟨#[68, 97, 116, 101]⟩, .string T] 64)) hgrow (fun h => by have := (hlo _ h).1; omega)
  have k2 := blk_grown (H0.out.2.1.alloc (.cells #[.string ⟨#[68, 97, 116, 101]⟩, .string T] 64)) hgrow (fun h => by have := (hlo _ h).1; omega)
  have k3 : Below w.heap.size w x0 := (H0.out.2.2.1.alloc (by have := H0.out.2.2.2.1; first | omega | (simp [World.setCell]; omega)) _).grown hgrow (by have := H0.out.2.2.2.1; first | omega | (simp [World.setCell]; omega)) (fun j hj => by have := (hlo j hj).1; omega)
  have k4 : B ≤ x0.heap.size := by have h1 := hgrow.size; have := H0.out.2.2.2.1; simp [World.setCell] at h1; omega
  clear q5 f5 hgl
  have q5 : x0.cell? ⟨g, 5, none⟩ = some _ := k2.cell 5
  have f5 : x0.frozen? ⟨g, 5, none⟩ = false := k2.froz 5
  have hgl : g < x0.heap.size := by omega
  have k5 : Blk (x0.setCell ⟨g, 5, none⟩ (.slice p0 1 c0)) g #[.string ⟨#[]⟩, .string ⟨#[]⟩, .int .i64 1, .int .i64 st, .string R, .slice p0 1 c0] 29 := by
    have := k2.set 5 (.slice p0 1 c0)
    simp at this
    exact this
  have k6 : Blk (x0.setCell ⟨g, 5, none⟩ (.slice p0 1 c0)) w.heap.size #[.string ⟨#[]⟩, .string ⟨#[]⟩, .int .i64 0, .int .i64 0, .string ⟨#[]⟩, .slice none 0 0] 29 := k1.far (by show w.heap.size ≠ g; omega) _
  have k7 : (x0.setCell ⟨g, 5, none⟩ (.slice p0 1 c0)).ownsRow B 64 2 (.slice p0 1 c0) 1 _ := own_set hown hgB 5 _
  have K0 := Lib.hid (And.intro k6 (And.intro k5 (And.intro (k3.setCell (show w.heap.size ≤ g by omega) (.slice p0 1 c0) : Below w.heap.size w (x0.setCell ⟨g, 5, none⟩ (.slice p0 1 c0))) (And.intro k4 k7))))
  clear k1 k2 k3 k4 k5 k6 k7 hown hgrow hlo H0
  go_wp2_with (at_builtin; refine wpList_append_own _ rfl _ _ 27 rfl B 64 i0 _ 2 32 Try.underlying27 hi hz0 hz1 hz2 rfl (by decide) _ _ _ rfl (K0.out.2.2.2.2.alloc _) ⟨x0.heap.size, 0, none⟩ 2 2 [.string ⟨#[67, 111, 110, 116, 101, 110, 116, 45, 76, 101, 110, 103, 116, 104]⟩, .string ⟨#[48]⟩, .string ⟨#[67, 111, 110, 110, 101, 99, 116, 105, 111, 110]⟩, .string ⟨#[99, 108, 111, 115, 101]⟩] rfl rfl ?c1 ?c2 ?c3 ?c4 ?c5 ?_)
  case c1 => exact World.news_of_block (cs := #[.string ⟨#[67, 111, 110, 116, 101, 110, 116, 45, 76, 101, 110, 103, 116, 104]⟩, .string ⟨#[48]⟩, .string ⟨#[67, 111, 110, 110, 101, 99, 116, 105, 111, 110]⟩, .string ⟨#[99, 108, 111, 115, 101]⟩]) (t := 64) (fr := (0, 0)) (Blk.new' (w := (x0.setCell ⟨g, 5, none⟩ (.slice p0 1 c0))) (by simp [World.setCell]))
  case c2 => simp [Value.oneCell']
  case c3 => unfold maxLen; omega
  case c4 => omega
  case c5 => have := K0.out.2.2.2.1; first | omega | (simp [World.setCell]; omega)
  intro v1 x1 hown hgrow _
  (try simp only [Nat.zero_add, List.nil_append] at hown)
  obtain ⟨p1, c1, hvv⟩ := own_slice hown
  subst hvv
  have hlo := (K0.out.2.2.2.2.alloc (.cells #[.string ⟨#[67, 111, 110, 116, 101, 110, 116, 45, 76, 101, 110, 103, 116, 104]⟩, .string ⟨#[48]⟩, .string ⟨#[67, 111, 110, 110, 101, 99, 116, 105, 111, 110]⟩, .string ⟨#[99, 108, 111, 115, 101]⟩] 64)).lt
  have k1 := blk_grown (K0.out.1.alloc (.cells #[.string ⟨#[67, 111, 110, 116, 101, 110, 116, 45, 76, 101, 110, 103, 116, 104]⟩, .string ⟨#[48]⟩, .string ⟨#[67, 111, 110, 110, 101, 99, 116, 105, 111, 110]⟩, .string ⟨#[99, 108, 111, 115, 101]⟩] 64)) hgrow (fun h => by have := (hlo _ h).1; omega)
  have k2 := blk_grown (K0.out.2.1.alloc (.cells #[.string ⟨#[67, 111, 110, 116, 101, 110, 116, 45, 76, 101, 110, 103, 116, 104]⟩, .string ⟨#[48]⟩, .string ⟨#[67, 111, 110, 110, 101, 99, 116, 105, 111, 110]⟩, .string ⟨#[99, 108, 111, 115, 101]⟩] 64)) hgrow (fun h => by have := (hlo _ h).1; omega)
  have k3 : Below w.heap.size w x1 := (K0.out.2.2.1.alloc (by have := K0.out.2.2.2.1; first | omega | (simp [World.setCell]; omega)) _).grown hgrow (by have := K0.out.2.2.2.1; first | omega | (simp [World.setCell]; omega)) (fun j hj => by have := (hlo j hj).1; omega)
  have k4 : B ≤ x1.heap.size := by have h1 := hgrow.size; have := K0.out.2.2.2.1; simp [World.setCell] at h1; omega
  clear q5 f5 hgl
  have q5 : x1.cell? ⟨g, 5, none⟩ = some _ := k2.cell 5
  have f5 : x1.frozen? ⟨g, 5, none⟩ = false := k2.froz 5
  have hgl : g < x1.heap.size := by omega
  have k5 : Blk (x1.setCell ⟨g, 5, none⟩ (.slice p1 3 c1)) g #[.string ⟨#[]⟩, .string ⟨#[]⟩, .int .i64 1, .int .i64 st, .string R, .slice p1 3 c1] 29 := by
    have := k2.set 5 (.slice p1 3 c1)
    simp at this
    exact this
  have k6 : Blk (x1.setCell ⟨g, 5, none⟩ (.slice p1 3 c1)) w.heap.size #[.string ⟨#[]⟩, .string ⟨#[]⟩, .int .i64 0, .int .i64 0, .string ⟨#[]⟩, .slice none 0 0] 29 := k1.far (by show w.heap.size ≠ g; omega) _
  have k7 : (x1.setCell ⟨g, 5, none⟩ (.slice p1 3 c1)).ownsRow B 64 2 (.slice p1 3 c1) 3 _ := own_set hown hgB 5 _
  have K1 := Lib.hid (And.intro k6 (And.intro k5 (And.intro (k3.setCell (show w.heap.size ≤ g by omega) (.slice p1 3 c1) : Below w.heap.size w (x1.setCell ⟨g, 5, none⟩ (.slice p1 3 c1))) (And.intro k4 k7))))
  clear k1 k2 k3 k4 k5 k6 k7 hown hgrow hlo K0
  have c0 := K1.out.2.1.cell 0
  have c1 := K1.out.2.1.cell 1
  have c2 := K1.out.2.1.cell 2
  have c3 := K1.out.2.1.cell 3
  have c4 := K1.out.2.1.cell 4
  have c5 := K1.out.2.1.cell 5
  have d0 := K1.out.1.cell 0
  have d1 := K1.out.1.cell 1
  have d2 := K1.out.1.cell 2
  have d3 := K1.out.1.cell 3
  have d4 := K1.out.1.cell 4
  have d5 := K1.out.1.cell 5
  have f0 := K1.out.1.froz 0
  have f1 := K1.out.1.froz 1
  have f2 := K1.out.1.froz 2
  have f3 := K1.out.1.froz 3
  have f4 := K1.out.1.froz 4
  have f6 := K1.out.1.froz 5
  simp at c0 c1 c2 c3 c4 c5 d0 d1 d2 d3 d4 d5
  go_wp2_with fail
  exact bodyPost_ret (results_cell_row Try.results10 _ _ _ _ _ _ _ rfl (blk_set6 K1.out.1 _ _ _ _ _ _) Try.underlying29 rfl (by kernel_rfl)) rfl ⟨_, rfl, by rw [HL.out]; exact Flds.of_own (own_set6 K1.out.2.2.2.2 (Nat.lt_trans hg0 hgB) _ _ _ _ _ _), below_set6 K1.out.2.2.1 (Nat.le_refl _) _ _ _ _ _ _⟩
set_option maxRecDepth 100000 in
set_option maxHeartbeats 1000000 in
theorem rhead_s0 (st minor now : Int) (T : ByteArray) (hm : minor ≤ 0) (hT : T.toList.isEmpty = false) (hP : ∀ W : World, Calls Try.prog 34 #[.int .i64 now] W fun e w' => e = .returned (.string T) ∧ Below W.heap.size W w') (w : World) :
    Calls Try.prog 10 #[.int .i64 st, .int .i64 minor, .int .i64 now] w fun e w' => ∃ f, e = .returned (.agg #[.string ⟨#[]⟩, .string ⟨#[]⟩, .int .i64 (verN minor), .int .i64 st, .string (reasonS st), f]) ∧ Flds w' f (hdL T) ∧ Below w.heap.size w w' := by
  obtain ⟨i0, hi, hz0, hz1, hz2⟩ := info_parts info_field
  have HR := Lib.hid (fun W => rreason_any st W)
  have HP := Lib.hid hP
  have HL : Hid (hdL T = [(⟨#[68, 97, 116, 101]⟩, T)] ++ [(⟨#[67, 111, 110, 116, 101, 110, 116, 45, 76, 101, 110, 103, 116, 104]⟩, ⟨#[48]⟩), (⟨#[67, 111, 110, 110, 101, 99, 116, 105, 111, 110]⟩, ⟨#[99, 108, 111, 115, 101]⟩)]) := by
    show hdL T = _
    unfold hdL
    rw [hT]
    rfl
  have hV : verN minor = 0 := by unfold verN; rw [if_neg (by omega)]
  rw [hV]
  clear hV
  have hT2 : T.toList.isEmpty = false := hT
  clear hT
  obtain ⟨R, hR⟩ : ∃ R, R = reasonS st := ⟨_, rfl⟩
  rw [← hR] at HR ⊢
  clear hR hP
  go_enter Try.func10, Try.ntmps10
  go_wp2_with (first | (go_at_call 33; refine (HR.out _).mono ?_; rintro e' w2 ⟨rfl, hb⟩; have HB := Lib.hid hb; clear hb) | (go_at_call 34; refine (HP.out _).mono ?_))
  rintro e' w3 ⟨rfl, hb⟩
  have HB3 := Lib.hid hb
  clear hb
  have z2 : w.heap.size + 1 ≤ w2.heap.size := by have := HB.out.size; simp at this; omega
  have z3 : w2.heap.size + 1 ≤ w3.heap.size := by have := HB3.out.size; simp at this; omega
  have hz0 : Blk w3 w.heap.size #[.string ⟨#[]⟩, .string ⟨#[]⟩, .int .i64 0, .int .i64 0, .string ⟨#[]⟩, .slice none 0 0] 29 := ((((Blk.new w _ _).call HB.out).alloc _).call HB3.out)
  have hz1 : Blk w3 w2.heap.size #[.string ⟨#[]⟩, .string ⟨#[]⟩, .int .i64 0, .int .i64 st, .string R, .slice none 0 0] 29 := (Blk.new w2 _ _).call HB3.out
  have hu : Below w.heap.size w w3 := ((((Below.refl _ _).alloc (Nat.le_refl _) _).trans (HB.out.mono (by simp))).alloc (by omega) _).trans (HB3.out.mono (by simp; omega))
  clear HB HB3 HR HP
  obtain ⟨B, hB⟩ : ∃ B, B = w2.heap.size + 1 := ⟨_, rfl⟩
  obtain ⟨g, hg⟩ : ∃ g, g = w2.heap.size := ⟨_, rfl⟩
  have hgB : g < B := by omega
  have hg0 : w.heap.size < g := by omega
  have hB3 : B ≤ w3.heap.size := by omega
  rw [← hg] at hz1 ⊢
  have ho0 : w3.ownsRow B 64 2 (.slice none 0 0) 0 [] := World.ownsRow_nil _ _ _ _
  have q5 : w3.cell? ⟨g, 5, none⟩ = some (.slice none 0 0) := hz1.cell 5
  have f5 : w3.frozen? ⟨g, 5, none⟩ = false := hz1.froz 5
  have hgl : g < w3.heap.size := by omega
  clear hB hg z2 z3
  have H0 := Lib.hid (And.intro hz0 (And.intro hz1 (And.intro hu (And.intro hB3 ho0))))
  clear hz0 hz1 hu hB3 ho0
  go_wp2_with (at_builtin; refine wpList_append_own _ rfl _ _ 27 rfl B 64 i0 _ 2 32 Try.underlying27 hi hz0 hz1 hz2 rfl (by decide) _ _ _ rfl (H0.out.2.2.2.2.alloc _) ⟨w3.heap.size, 0, none⟩ 1 1 [.string ⟨#[68, 97, 116, 101]⟩, .string T] rfl rfl ?c1 ?c2 ?c3 ?c4 ?c5 ?_)
  case c1 => exact World.news_of_block (cs := #[.string ⟨#[68, 97, 116, 101]⟩, .string T]) (t := 64) (fr := (0, 0)) (Blk.new' (w := w3) (by simp [World.setCell]))
  case c2 => simp [Value.oneCell']
  case c3 => unfold maxLen; omega
  case c4 => omega
  case c5 => have := H0.out.2.2.2.1; first | omega | (simp [World.setCell]; omega)
  intro v0 x0 hown hgrow _
  (try simp only [Nat.zero_add, List.nil_append] at hown)
  obtain ⟨p0, c0, hvv⟩ := own_slice hown
  subst hvv
  have hlo := (H0.out.2.2.2.2.alloc (.cells #[.string ⟨#[68, 97, 116, 101]⟩, .string T] 64)).lt
  have k1 := blk_grown (H0.out.1.alloc (.cells #[.string ⟨#[68, 97, 116, 101]⟩, .string T] 64)) hgrow (fun h => by have := (hlo _ h).1; omega)
  have k2 := blk_grown (H0.out.2.1.alloc (.cells #[.string ⟨#[68, 97, 116, 101]⟩, .string T] 64)) hgrow (fun h => by have := (hlo _ h).1; omega)
  have k3 : Below w.heap.size w x0 := (H0.out.2.2.1.alloc (by have := H0.out.2.2.2.1; first | omega | (simp [World.setCell]; omega)) _).grown hgrow (by have := H0.out.2.2.2.1; first | omega | (simp [World.setCell]; omega)) (fun j hj => by have := (hlo j hj).1; omega)
  have k4 : B ≤ x0.heap.size := by have h1 := hgrow.size; have := H0.out.2.2.2.1; simp [World.setCell] at h1; omega
  clear q5 f5 hgl
  have q5 : x0.cell? ⟨g, 5, none⟩ = some _ := k2.cell 5
  have f5 : x0.frozen? ⟨g, 5, none⟩ = false := k2.froz 5
  have hgl : g < x0.heap.size := by omega
  have k5 : Blk (x0.setCell ⟨g, 5, none⟩ (.slice p0 1 c0)) g #[.string ⟨#[]⟩, .string ⟨#[]⟩, .int .i64 0, .int .i64 st, .string R, .slice p0 1 c0] 29 := by
    have := k2.set 5 (.slice p0 1 c0)
    simp at this
    exact this
  have k6 : Blk (x0.setCell ⟨g, 5, none⟩ (.slice p0 1 c0)) w.heap.size #[.string ⟨#[]⟩, .string ⟨#[]⟩, .int .i64 0, .int .i64 0, .string ⟨#[]⟩, .slice none 0 0] 29 := k1.far (by show w.heap.size ≠ g; omega) _
  have k7 : (x0.setCell ⟨g, 5, none⟩ (.slice p0 1 c0)).ownsRow B 64 2 (.slice p0 1 c0) 1 _ := own_set hown hgB 5 _
  have K0 := Lib.hid (And.intro k6 (And.intro k5 (And.intro (k3.setCell (show w.heap.size ≤ g by omega) (.slice p0 1 c0) : Below w.heap.size w (x0.setCell ⟨g, 5, none⟩ (.slice p0 1 c0))) (And.intro k4 k7))))
  clear k1 k2 k3 k4 k5 k6 k7 hown hgrow hlo H0
  go_wp2_with (at_builtin; refine wpList_append_own _ rfl _ _ 27 rfl B 64 i0 _ 2 32 Try.underlying27 hi hz0 hz1 hz2 rfl (by decide) _ _ _ rfl (K0.out.2.2.2.2.alloc _) ⟨x0.heap.size, 0, none⟩ 2 2 [.string ⟨#[67, 111, 110, 116, 101, 110, 116, 45, 76, 101, 110, 103, 116, 104]⟩, .string ⟨#[48]⟩, .string ⟨#[67, 111, 110, 110, 101, 99, 116, 105, 111, 110]⟩, .string ⟨#[99, 108, 111, 115, 101]⟩] rfl rfl ?c1 ?c2 ?c3 ?c4 ?c5 ?_)
  case c1 => exact World.news_of_block (cs := #[.string ⟨#[67, 111, 110, 116, 101, 110, 116, 45, 76, 101, 110, 103, 116, 104]⟩, .string ⟨#[48]⟩, .string ⟨#[67, 111, 110, 110, 101, 99, 116, 105, 111, 110]⟩, .string ⟨#[99, 108, 111, 115, 101]⟩]) (t := 64) (fr := (0, 0)) (Blk.new' (w := (x0.setCell ⟨g, 5, none⟩ (.slice p0 1 c0))) (by simp [World.setCell]))
  case c2 => simp [Value.oneCell']
  case c3 => unfold maxLen; omega
  case c4 => omega
  case c5 => have := K0.out.2.2.2.1; first | omega | (simp [World.setCell]; omega)
  intro v1 x1 hown hgrow _
  (try simp only [Nat.zero_add, List.nil_append] at hown)
  obtain ⟨p1, c1, hvv⟩ := own_slice hown
  subst hvv
  have hlo := (K0.out.2.2.2.2.alloc (.cells #[.string ⟨#[67, 111, 110, 116, 101, 110, 116, 45, 76, 101, 110, 103, 116, 104]⟩, .string ⟨#[48]⟩, .string ⟨#[67, 111, 110, 110, 101, 99, 116, 105, 111, 110]⟩, .string ⟨#[99, 108, 111, 115, 101]⟩] 64)).lt
  have k1 := blk_grown (K0.out.1.alloc (.cells #[.string ⟨#[67, 111, 110, 116, 101, 110, 116, 45, 76, 101, 110, 103, 116, 104]⟩, .string ⟨#[48]⟩, .string ⟨#[67, 111, 110, 110, 101, 99, 116, 105, 111, 110]⟩, .string ⟨#[99, 108, 111, 115, 101]⟩] 64)) hgrow (fun h => by have := (hlo _ h).1; omega)
  have k2 := blk_grown (K0.out.2.1.alloc (.cells #[.string ⟨#[67, 111, 110, 116, 101, 110, 116, 45, 76, 101, 110, 103, 116, 104]⟩, .string ⟨#[48]⟩, .string ⟨#[67, 111, 110, 110, 101, 99, 116, 105, 111, 110]⟩, .string ⟨#[99, 108, 111, 115, 101]⟩] 64)) hgrow (fun h => by have := (hlo _ h).1; omega)
  have k3 : Below w.heap.size w x1 := (K0.out.2.2.1.alloc (by have := K0.out.2.2.2.1; first | omega | (simp [World.setCell]; omega)) _).grown hgrow (by have := K0.out.2.2.2.1; first | omega | (simp [World.setCell]; omega)) (fun j hj => by have := (hlo j hj).1; omega)
  have k4 : B ≤ x1.heap.size := by have h1 := hgrow.size; have := K0.out.2.2.2.1; simp [World.setCell] at h1; omega
  clear q5 f5 hgl
  have q5 : x1.cell? ⟨g, 5, none⟩ = some _ := k2.cell 5
  have f5 : x1.frozen? ⟨g, 5, none⟩ = false := k2.froz 5
  have hgl : g < x1.heap.size := by omega
  have k5 : Blk (x1.setCell ⟨g, 5, none⟩ (.slice p1 3 c1)) g #[.string ⟨#[]⟩, .string ⟨#[]⟩, .int .i64 0, .int .i64 st, .string R, .slice p1 3 c1] 29 := by
    have := k2.set 5 (.slice p1 3 c1)
    simp at this
    exact this
  have k6 : Blk (x1.setCell ⟨g, 5, none⟩ (.slice p1 3 c1)) w.heap.size #[.string ⟨#[]⟩, .string ⟨#[]⟩, .int .i64 0, .int .i64 0, .string ⟨#[]⟩, .slice none 0 0] 29 := k1.far (by show w.heap.size ≠ g; omega) _
  have k7 : (x1.setCell ⟨g, 5, none⟩ (.slice p1 3 c1)).ownsRow B 64 2 (.slice p1 3 c1) 3 _ := own_set hown hgB 5 _
  have K1 := Lib.hid (And.intro k6 (And.intro k5 (And.intro (k3.setCell (show w.heap.size ≤ g by omega) (.slice p1 3 c1) : Below w.heap.size w (x1.setCell ⟨g, 5, none⟩ (.slice p1 3 c1))) (And.intro k4 k7))))
  clear k1 k2 k3 k4 k5 k6 k7 hown hgrow hlo K0
  have c0 := K1.out.2.1.cell 0
  have c1 := K1.out.2.1.cell 1
  have c2 := K1.out.2.1.cell 2
  have c3 := K1.out.2.1.cell 3
  have c4 := K1.out.2.1.cell 4
  have c5 := K1.out.2.1.cell 5
  have d0 := K1.out.1.cell 0
  have d1 := K1.out.1.cell 1
  have d2 := K1.out.1.cell 2
  have d3 := K1.out.1.cell 3
  have d4 := K1.out.1.cell 4
  have d5 := K1.out.1.cell 5
  have f0 := K1.out.1.froz 0
  have f1 := K1.out.1.froz 1
  have f2 := K1.out.1.froz 2
  have f3 := K1.out.1.froz 3
  have f4 := K1.out.1.froz 4
  have f6 := K1.out.1.froz 5
  simp at c0 c1 c2 c3 c4 c5 d0 d1 d2 d3 d4 d5
  go_wp2_with fail
  exact bodyPost_ret (results_cell_row Try.results10 _ _ _ _ _ _ _ rfl (blk_set6 K1.out.1 _ _ _ _ _ _) Try.underlying29 rfl (by kernel_rfl)) rfl ⟨_, rfl, by rw [HL.out]; exact Flds.of_own (own_set6 K1.out.2.2.2.2 (Nat.lt_trans hg0 hgB) _ _ _ _ _ _), below_set6 K1.out.2.2.1 (Nat.le_refl _) _ _ _ _ _ _⟩
end Go.Proofs.Ytkcimbjgjamloaa
