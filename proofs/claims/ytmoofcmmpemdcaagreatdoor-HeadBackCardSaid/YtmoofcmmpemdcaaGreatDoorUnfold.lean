/- Package field: Unfold. -/
import Derived.Test.YtmoofcmmpemdcaaGreatDoorUnfoldJ
set_option linter.unusedSimpArgs false
set_option linter.unusedVariables false
namespace Go.Proofs.YtmoofcmmpemdcaaGreatDoor
open Go.RowKit
def ufRes (o : Option (List ByteArray)) : Int := match o with | none => 3 | some _ => 0
/-- What Unfold hands back: the row of its own, or nothing. -/
def UfRes (w' : World) (B : Nat) (v : Value) : Option (List ByteArray) → Prop
  | none => v = .slice none 0 0
  | some out => OwnS w' B v out
set_option maxRecDepth 100000 in
set_option maxHeartbeats 4000000 in
theorem unfold_any (fold : Int) (v : Value) (l : List ByteArray) (w : World) (h : Strs w v l) (hn : l.length ≤ 500000) (ht : tot l ≤ 500000) :
    Calls Tryz.prog 213 #[.int .i64 fold, v] w fun e w' => ∃ v', e = .returned (.tuple #[v', .int .i64 (ufRes (ufold fold l))]) ∧ UfRes w' w.heap.size v' (ufold fold l) ∧ Below w.heap.size w w' := by
  obtain ⟨p, c, rfl, hc⟩ := h
  have hc' : ∀ k (hk : k < l.length) (W : World), Below w.heap.size w W → ∃ b off, p = some ⟨b, off, none⟩ ∧ W.cell? ⟨b, off + k, none⟩ = some (.string l[k]) := fun k hk W hW => by
    obtain ⟨b, off, hp, h1⟩ := hc k hk
    exact ⟨b, off, hp, (bcell hW b _ (World.block_lt_of_cell? w _ h1)).trans h1⟩
  have HC := Lib.hid hc'
  have HT := Lib.hid ht
  obtain ⟨F, hF⟩ : ∃ F, F = ufold fold := ⟨_, rfl⟩
  have hF0 : F (l.take 0) = some [] := by rw [hF]; rfl
  have HF0 := Lib.hid hF0
  have hFs : ∀ k (hk : k < l.length), F (l.take (k + 1)) = ufStep fold (F (l.take k)) l[k] := by rw [hF]; exact fun k hk => ufold_snoc fold l k hk
  have HFS := Lib.hid hFs
  have hFn : ∀ k, F (l.take k) = none → F l = none := by rw [hF]; exact fun k => ufold_none fold l k
  have HFN := Lib.hid hFn
  have hFl : ∀ k, k ≤ l.length → ∀ out, F (l.take k) = some out → out.length ≤ k ∧ (0 < k → 0 < out.length) := by rw [hF]; exact ufold_len fold l
  have HFL := Lib.hid hFl
  have hFt : ∀ k, k ≤ l.length → ∀ out, F (l.take k) = some out → ∀ x ∈ out, x.size ≤ 1000000 := by rw [hF]; exact fun k hk out ho x hx => by have := ufold_le hk ho hx; omega
  have HFT := Lib.hid hFt
  rw [show ufold fold l = F l by rw [hF]]
  clear hc hc' ht hF0 hFs hFn hFl hFt hF
  go_enter Tryz.func213, Tryz.ntmps213
  go_wp2_with fail
  go_loopw [13] (fun u13 wr => ∃ (k : Nat) (acc : List ByteArray) (v' : Value), k ≤ l.length ∧ u13 = .int .i64 k ∧ F (l.take k) = some acc ∧ Blk wr w.heap.size #[v'] 37 ∧ OwnS wr (w.heap.size + 1) v' acc ∧ Below w.heap.size w wr) (fun u13 _ => l.length - (intOf u13).toNat)
  case atStart => exact ⟨0, [], _, Nat.zero_le _, rfl, HF0.out, Blk.new _ _ _, OwnS.start _ _, (Below.refl _ _).alloc (Nat.le_refl _) _⟩
  case round =>
    obtain ⟨k, acc, v', hk, rfl, hacc, hblk, hown, hb⟩ := hrel
    have q0 : wr.cell? ⟨w.heap.size, 0, none⟩ = some v' := hblk.cell 0
    have f0 : wr.frozen? ⟨w.heap.size, 0, none⟩ = false := hblk.froz 0
    have hwz := hblk.lt
    have HA := Lib.hid hacc
    have HB := Lib.hid hb
    have HK := Lib.hid hblk
    have HO := Lib.hid hown
    clear hacc hb hblk hown
    by_cases hlt : k < l.length
    · have hk1 : decide ((k : Int) < (l.length : Int)) = true := decide_eq_true (by omega)
      obtain ⟨b, off, hp, h1⟩ := HC.out k hlt wr HB.out
      subst hp
      obtain ⟨s, hs⟩ : ∃ s, s = l[k] := ⟨_, rfl⟩
      rw [← hs] at h1
      have hS := HFS.out k hlt
      rw [HA.out, ← hs] at hS
      have hss : s.size ≤ 500000 := by have := tot_mem (l := l) (x := s) (by rw [hs]; exact List.getElem_mem hlt); have := HT.out; omega
      have HS := Lib.hid hS
      have HSS := Lib.hid hss
      have hal := HFL.out k hk acc HA.out
      have hat := HFT.out k hk acc HA.out
      clear hs hS hss
      cases hg : goesB s with
      | false =>
        have HGO : Hid (∀ W : World, Calls Tryz.prog 247 #[.string s] W fun e w' => e = .returned (.bool false) ∧ W = w') := fun W => by have := goes_any s W; rw [hg] at this; exact this
        have hS2 : F (l.take (k + 1)) = some (acc ++ [s]) := by rw [HS.out]; simp only [ufStep]; rw [if_pos hg]
        have HS2 := Lib.hid hS2
        clear hS2 HS hg
        go_wp2_with (first | (go_at_call 247; refine (HGO.out _).mono ?_; rintro e' w' ⟨rfl, rfl⟩) | (at_builtin; refine wpList_push_str rfl _ _ rfl rfl HO.out s rfl (by omega) (by omega) ?_))
        intro p1 c1 w1 hown1 hg1 hb1
        have hne : v'.ownBlock ≠ some w.heap.size := fun e => by have := (HO.out.lt _ e).1; omega
        have hK1 := blk_grown (HK.out.alloc (.cells #[.string s] 9)) hg1 hne
        have q1 : w1.cell? ⟨w.heap.size, 0, none⟩ = some v' := hK1.cell 0
        have f1 : w1.frozen? ⟨w.heap.size, 0, none⟩ = false := hK1.froz 0
        have HO1 := Lib.hid hown1
        have HK1 := Lib.hid hK1
        have HB1 := Lib.hid (HB.out.trans (hb1.mono (by omega)))
        clear hown1 hg1 hb1 hne hK1
        go_wp2_with fail
        go_roundw
        case rel =>
          refine ⟨k + 1, acc ++ [s], .slice p1 (acc.length + 1) c1, by omega, by go_num, HS2.out, ?_, ?_, HB1.out.setCell (Nat.le_refl _) _⟩
          · have := HK1.out.set 0 (.slice p1 (acc.length + 1) c1)
            simpa using this
          · exact own_set HO1.out (Nat.lt_succ_self _) _ _
        case measure => simp [intOf]; omega
      | true =>
        have HGO : Hid (∀ W : World, Calls Tryz.prog 247 #[.string s] W fun e w' => e = .returned (.bool true) ∧ W = w') := fun W => by have := goes_any s W; rw [hg] at this; exact this
        by_cases hf : fold = 0
        · have hf1 : (fold == 0) = true := by rw [beq_iff_eq]; exact hf
          have hS2 : F l = none := HFN.out (k + 1) (by rw [HS.out]; simp only [ufStep]; rw [if_neg (by rw [hg]; simp), if_pos (Or.inl hf)])
          have HS2 := Lib.hid hS2
          clear hS2 HS hg hf
          go_wp2_with (go_at_call 247; refine (HGO.out _).mono ?_; rintro e' w' ⟨rfl, rfl⟩)
          go_ret2
          refine ⟨.slice none 0 0, ?_, ?_, HB.out⟩
          · rw [HS2.out]; rfl
          · rw [HS2.out]; rfl
        · have hf1 : (fold == 0) = false := by rw [beq_eq_false_iff_ne]; exact hf
          obtain ⟨p1, c1, rfl⟩ := HO.out.shape
          by_cases ha : acc = []
          · have ha1 : ((acc.length : Int) == 0) = true := by rw [ha]; rfl
            have hS2 : F l = none := HFN.out (k + 1) (by rw [HS.out]; simp only [ufStep]; rw [if_neg (by rw [hg]; simp), if_pos (Or.inr ha)])
            have HS2 := Lib.hid hS2
            clear hS2 HS hg hf ha
            go_wp2_with (go_at_call 247; refine (HGO.out _).mono ?_; rintro e' w' ⟨rfl, rfl⟩)
            go_ret2
            refine ⟨.slice none 0 0, ?_, ?_, HB.out⟩
            · rw [HS2.out]; rfl
            · rw [HS2.out]; rfl
          · obtain ⟨m, hm⟩ : ∃ m, acc.length = m + 1 := ⟨acc.length - 1, by cases acc with | nil => exact absurd rfl ha | cons a t => simp⟩
            have ha1 : ((acc.length : Int) == 0) = false := by rw [beq_eq_false_iff_ne]; omega
            obtain ⟨x, hx⟩ : ∃ x, acc[m]? = some x := ⟨_, List.getElem?_eq_getElem (by omega)⟩
            have hS2 : F (l.take (k + 1)) = some (acc.set m (joinB x s)) := by
              rw [HS.out]; simp only [ufStep]; rw [if_neg (by rw [hg]; simp), if_neg (by rintro (e | e); exact hf e; exact ha e)]
              rw [show acc.length - 1 = m by omega, List.getD_eq_getElem?_getD, hx]
              rfl
            have HS2 := Lib.hid hS2
            have HJ := Lib.hid (join_any s x w.heap.size m acc _ wr HK.out HO.out hm hx (by omega) (hat _ (List.mem_of_getElem? hx)) (by have := HSS.out; omega))
            clear hS2 HS hg hf ha hm hx
            go_wp2_with (first | (go_at_call 247; refine (HGO.out _).mono ?_; rintro e' w' ⟨rfl, rfl⟩) | (go_at_call 245; refine HJ.out.mono ?_; rintro e' w1 ⟨rfl, hk1', ho1, hb1⟩; have HJ1 := Lib.hid (And.intro hk1' (And.intro ho1 hb1)); clear hk1' ho1 hb1))
            go_roundw
            case rel =>
              refine ⟨k + 1, acc.set m (joinB x s), _, by omega, by go_num, HS2.out, HJ1.out.1, HJ1.out.2.1, HB.out.trans HJ1.out.2.2⟩
            case measure => simp [intOf]; omega
    · have hk1 : decide ((k : Int) < (l.length : Int)) = false := decide_eq_false (by omega)
      have hS2 : F l = some acc := by have := HA.out; rwa [List.take_of_length_le (by omega)] at this
      have HS2 := Lib.hid hS2
      clear hS2
      go_wp2_with fail
      go_ret2
      refine ⟨v', ?_, ?_, HB.out⟩
      · rw [HS2.out]; rfl
      · rw [HS2.out]; exact HO.out.lower (Nat.le_succ _)
end Go.Proofs.YtmoofcmmpemdcaaGreatDoor
