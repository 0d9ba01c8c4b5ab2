/- The reference's Same of two heads. -/
import Derived.Test.YtmoofcmmpemdcaaGreatDoorFlds
set_option linter.unusedSimpArgs false
set_option linter.unusedVariables false
namespace Go.Proofs.YtmoofcmmpemdcaaGreatDoor
open Go.RowKit
theorem below_two {w w1 : World} {o o' : Obj} (h : Below ((w.alloc o).alloc o').heap.size ((w.alloc o).alloc o') w1) : Below w.heap.size w w1 := (((Below.refl _ _).alloc (Nat.le_refl _) _).alloc (by simp) _).trans (h.mono (by simp; omega))
set_option maxRecDepth 100000 in
theorem hsame_any (m t r m' t' r' : ByteArray) (k n k' n' : Int) (f f' : Value) (l l' : List Fd) {p1 p2 p3 p4 p5 : Bool} (h1 : (m.toList == m'.toList) = p1) (h2 : (t.toList == t'.toList) = p2) (h3 : (k == k') = p3) (h4 : (n == n') = p4) (h5 : (r.toList == r'.toList) = p5) (w : World) (hf : Flds w f l) (hf' : Flds w f' l') (hz : l.length ≤ 1000000000) (hz' : l'.length ≤ 1000000000) :
    Calls Tryz.prog 23 #[.agg #[.string m, .string t, .int .i64 k, .int .i64 n, .string r, f], .agg #[.string m', .string t', .int .i64 k', .int .i64 n', .string r', f']] w fun e w' => e = .returned (.bool ((p1 && (p2 && (p3 && (p4 && p5)))) && decide (l = l'))) ∧ Below w.heap.size w w' := by
  have HS := Lib.hid (fun W => same_any m t r m' t' r' k n k' n' f f' h1 h2 h3 h4 h5 W)
  clear h1 h2 h3 h4 h5
  obtain ⟨b, hb⟩ : ∃ b, b = (p1 && (p2 && (p3 && (p4 && p5)))) := ⟨_, rfl⟩
  obtain ⟨d, hd⟩ : ∃ d, d = decide (l = l') := ⟨_, rfl⟩
  have HF : Hid (∀ W, Below w.heap.size w W → Calls Tryz.prog 38 #[f, f'] W fun e w' => e = .returned (.bool d) ∧ Below W.heap.size W w') := by
    show ∀ W, _ → _
    intro W hW
    rw [hd]
    exact fsame_any f f' l l' W (hf.below hW) (hf'.below hW) hz hz'
  rw [← hb] at HS ⊢
  rw [← hd]
  clear hb hd hf hf' hz hz'
  cases b
  · go_enter Tryz.func23, Tryz.ntmps23
    go_wp2_with (go_at_call 55; refine (HS.out _).mono ?_; rintro e1 w1 ⟨rfl, hb1⟩; have HB1 := Lib.hid hb1; clear hb1)
    go_ret
    refine ⟨by simp, ?_⟩
    have h0 : Below w.heap.size w ((w.alloc (.cells #[.string m, .string t, .int .i64 k, .int .i64 n, .string r, f] 24)).alloc (.cells #[.string m', .string t', .int .i64 k', .int .i64 n', .string r', f'] 24)) := ((Below.refl _ _).alloc (Nat.le_refl _) _).alloc (by simp) _
    exact h0.trans (HB1.out.mono (by simp; omega))
  · go_enter Tryz.func23, Tryz.ntmps23
    go_wp2_with (first | (go_at_call 55; refine (HS.out _).mono ?_; rintro e1 w1 ⟨rfl, hb1⟩; have q5 := (((Blk.new w _ _).alloc _).call hb1).cell 5; have q6 := ((Blk.new' (n := w.heap.size + 1) (by simp)).call hb1).cell 5; simp at q5 q6; have B1 := Lib.hid (below_two hb1); clear hb1) | (go_at_call 38; refine (HF.out _ B1.out).mono ?_; rintro e2 w2 ⟨rfl, hb2⟩; have B2 := Lib.hid (B1.out.trans (hb2.mono B1.out.size)); clear hb2))
    go_ret
    exact ⟨by simp, B2.out⟩
end Go.Proofs.YtmoofcmmpemdcaaGreatDoor
