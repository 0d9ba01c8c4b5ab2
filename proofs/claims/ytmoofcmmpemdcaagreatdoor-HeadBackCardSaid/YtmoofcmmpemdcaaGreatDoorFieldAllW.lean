/- Package field: All; the reference's. -/
import Derived.Test.YtmoofcmmpemdcaaGreatDoorFieldAll
set_option linter.unusedSimpArgs false
set_option linter.unusedVariables false
namespace Go.Proofs.YtmoofcmmpemdcaaGreatDoor
open Go.RowKit
set_option maxRecDepth 100000 in
set_option maxHeartbeats 4000000 in
theorem fall_any (fold : Int) (v : Value) (l : List ByteArray) (w : World) {mx : Int} (hm : w.cell? ⟨0, 0, none⟩ = some (.int .i64 mx)) (h : Strs w v l) (hn : l.length ≤ 500000) (ht : tot l ≤ 500000) :
    Calls Tryz.prog 173 #[.int .i64 fold, v] w fun e w' => ∃ v', e = .returned (.tuple #[v', .int .i64 (allF fold l).2]) ∧ OwnF w' w.heap.size v' (allF fold l).1 ∧ Below w.heap.size w w' := by
  have HU := Lib.hid (unfold_any fold v l w h hn ht)
  obtain ⟨i0, hi, hz0, hz1, hz2⟩ := info_parts info_field
  cases hu : ufold fold l with
  | none =>
    have hA : allF fold l = ([], 3) := by unfold allF; rw [hu]
    have HA := Lib.hid hA
    have HU2 := HU.out
    rw [hu] at HU2
    have HU2 := Lib.hid HU2
    clear hA hm h hn ht hu HU hi hz0 hz1 hz2
    go_enter Tryz.func173, Tryz.ntmps173
    go_wp2_with (go_at_call 213; refine HU2.out.mono ?_; rintro e' w1 ⟨v1, rfl, hv1, hb1⟩; have HB1 := Lib.hid hb1; clear hb1; have hv1 : v1 = .slice none 0 0 := hv1; subst hv1)
    go_ret2
    refine ⟨.slice none 0 0, ?_, ?_, HB1.out⟩
    · rw [HA.out]; rfl
    · rw [HA.out]; exact OwnF.start _ _
  | some out =>
    have hA : allF fold l = pAcc out := by unfold allF; rw [hu]
    have HA := Lib.hid hA
    have HU2 := HU.out
    rw [hu] at HU2
    have HU2 := Lib.hid HU2
    have hlen : out.length ≤ l.length := by
      have := (ufold_len fold l l.length (Nat.le_refl _) out (by rw [List.take_length]; exact hu)).1
      exact this
    have hsz : ∀ x ∈ out, x.size ≤ 1000000 := fun x hx => by
      have := ufold_le (Nat.le_refl l.length) (by rw [List.take_length]; exact hu) hx
      omega
    have HSZ := Lib.hid hsz
    obtain ⟨n, hnn⟩ : ∃ n, n = out.length := ⟨_, rfl⟩
    have hn5 : n ≤ 500000 := by omega
    have HN := Lib.hid hnn
    have HM := Lib.hid hm
    clear hA hm h hn ht hu HU hlen hsz hnn
    go_enter Tryz.func173, Tryz.ntmps173
    go_wp2_with (first | (at_make; refine wpList_make_full _ rfl _ _ 22 rfl w1.heap.size 95 i0 _ 2 Tryz.underlying22 hi hz0 hz1 .i64 .i64 (n : Int) (n : Int) n ?hl ?hc rfl rfl ?b2 ?b3 (Nat.le_refl _) ?_) | (go_at_call 213; refine HU2.out.mono ?_; rintro e' w1 ⟨v1, rfl, hv1, hb1⟩; have HB1 := Lib.hid hb1; have HO1 := Lib.hid (show OwnS w1 w.heap.size v1 out from hv1); clear hb1 hv1; obtain ⟨p1, c1, hsh, hcell⟩ := HO1.out.strs; rw [← HN.out] at hsh; subst hsh; have HCE := Lib.hid hcell; clear hcell))
    case hl => rfl
    case hc => rfl
    case b2 => rw [hz2]; omega
    case b3 => unfold maxLen; omega
    intro w2 hown2 hg2
    have hO2 : OwnF w2 w1.heap.size (.slice (some ⟨w1.heap.size, 0, none⟩) n n) (List.replicate n (⟨#[]⟩, ⟨#[]⟩)) := by
      show w2.ownsRow _ _ _ _ (List.replicate n (_ : Fd)).length _
      rw [List.length_replicate, ← made_flat]
      exact hown2
    have hb2 : Below w1.heap.size w1 w2 := (Below.refl _ _).grown hg2 (Nat.le_refl _) (fun j hj => by cases hj)
    have HO2 := Lib.hid hO2
    have HB2 := Lib.hid hb2
    clear hown2 hg2 hO2 hb2
    have hlt2 : w1.heap.size < w2.heap.size := (HO2.out.lt _ rfl).2
    go_wp2_with fail
    go_loopw [7, 25] (fun u7 u25 wr => ∃ (k : Nat) (L : List Fd), k ≤ n ∧ u25 = .int .i64 k ∧ u7 = .int .i64 0 ∧ n = L.length ∧ OwnF wr w1.heap.size (.slice (some ⟨w1.heap.size, 0, none⟩) n n) L ∧ (∀ j (hj : j < out.length), j < k → L[j]? = some (fparse out[j]).1 ∧ (fparse out[j]).2 = 0) ∧ Below w1.heap.size w1 wr) (fun _ u25 _ => n - (intOf u25).toNat)
    case atStart => exact ⟨0, _, Nat.zero_le _, rfl, rfl, by simp, HO2.out, fun j _ hj => absurd hj (Nat.not_lt_zero _), HB2.out⟩
    case round =>
      obtain ⟨k, L, hk, rfl, rfl, hL, hown, hpre, hb⟩ := hrel
      have HO := Lib.hid hown
      have HP := Lib.hid hpre
      have HB := Lib.hid hb
      have HL := Lib.hid hL
      clear hown hpre hb hL
      by_cases hlt : k < n
      · have hk1 : decide ((k : Int) < (n : Int)) = true := decide_eq_true (by omega)
        have hko : k < out.length := by have := HN.out; omega
        obtain ⟨b, off, hp, h1⟩ := HCE.out k hko
        subst hp
        have h2 := (bcell HB.out b _ (World.block_lt_of_cell? _ _ h1)).trans h1
        obtain ⟨s, hs⟩ : ∃ s, s = out[k] := ⟨_, rfl⟩
        rw [← hs] at h2
        have hss : s.size ≤ 1000000 := HSZ.out s (by rw [hs]; exact List.getElem_mem hko)
        have HPA := Lib.hid (fparse_any s hss wr (mx_below HM.out (HB1.out.trans (HB.out.mono HB1.out.size))))
        have HSO := Lib.hid hs
        have HKO := Lib.hid hko
        obtain ⟨f, hf⟩ : ∃ f, fparse s = f := ⟨_, rfl⟩
        obtain ⟨⟨f1, f2⟩, f3⟩ := f
        rw [hf] at HPA
        have HF := Lib.hid hf
        have hwr : w1.heap.size < wr.heap.size := (HO.out.lt _ rfl).2
        have fz1 := OwnF.froz HL.out HO.out (k * 2)
        have fz2 := OwnF.froz HL.out HO.out (k * 2 + 1)
        clear hs hss hf h1
        by_cases h3 : f3 = 0
        · subst h3
          go_wp2_with (go_at_call 214; refine HPA.out.mono ?_; rintro e' w3 ⟨rfl, hb3⟩; have HB3 := Lib.hid hb3; have HO3 := Lib.hid (HO.out.call hb3); have fz3 := OwnF.froz HL.out HO3.out (k * 2); have fz4 := OwnF.froz HL.out HO3.out (k * 2 + 1); have hw3 : w1.heap.size < w3.heap.size := (HO3.out.lt _ rfl).2; obtain ⟨z1, z2, y1, y2⟩ := OwnF.at HL.out HO3.out k hlt; clear hb3)
          go_roundw
          case rel =>
            have hL := HL.out
            refine ⟨k + 1, L.set k (f1, f2), by omega, by go_num, rfl, by rw [List.length_set]; exact hL, ?_, ?_, ?_⟩
            · exact OwnF.set hL HO3.out k (by omega) (f1, f2)
            · intro j hj hjk
              by_cases e : j = k
              · subst e
                rw [List.getElem?_set_self (by omega), ← HSO.out, HF.out]
                exact ⟨rfl, rfl⟩
              · rw [List.getElem?_set_ne (Ne.symm e)]
                exact HP.out j hj (by omega)
            · exact ((HB.out.trans (HB3.out.mono (Nat.le_of_lt hwr))).setCell (Nat.le_refl _) _).setCell (Nat.le_refl _) _
          case measure => simp [intOf]; omega
        · have hne : (f3 != 0) = true := by simpa using h3
          have hA2 : allF fold l = ([], f3) := by
            rw [HA.out, pAcc_err out k HKO.out (fun j hj hjk => (HP.out j hj hjk).2) (by rw [← HSO.out, HF.out]; exact h3), ← HSO.out, HF.out]
          have HA2 := Lib.hid hA2
          clear hA2 h3
          go_wp2_with (go_at_call 214; refine HPA.out.mono ?_; rintro e' w3 ⟨rfl, hb3⟩; have HB3 := Lib.hid hb3; have HO3 := Lib.hid (HO.out.call hb3); have fz3 := OwnF.froz HL.out HO3.out (k * 2); have fz4 := OwnF.froz HL.out HO3.out (k * 2 + 1); have hw3 : w1.heap.size < w3.heap.size := (HO3.out.lt _ rfl).2; obtain ⟨z1, z2, y1, y2⟩ := OwnF.at HL.out HO3.out k hlt; clear hb3)
          go_ret2
          refine ⟨.slice none 0 0, ?_, ?_, ?_⟩
          · rw [HA2.out]; rfl
          · rw [HA2.out]; exact OwnF.start _ _
          · exact HB1.out.trans ((((HB.out.trans (HB3.out.mono (Nat.le_of_lt hwr))).setCell (Nat.le_refl _) _).setCell (Nat.le_refl _) _).mono HB1.out.size)
      · have hk1 : decide ((k : Int) < (n : Int)) = false := decide_eq_false (by omega)
        have hA2 : allF fold l = (L, 0) := by
          rw [HA.out, pAcc_ok out (fun j hj => (HP.out j hj (by have := HN.out; omega)).2)]
          refine Prod.ext (List.ext_getElem? fun j => ?_) rfl
          show (out.map fun s => (fparse s).1)[j]? = L[j]?
          by_cases hj : j < out.length
          · rw [(HP.out j hj (by have := HN.out; omega)).1, List.getElem?_map, List.getElem?_eq_getElem hj]
            rfl
          · rw [List.getElem?_eq_none (by rw [List.length_map]; omega), List.getElem?_eq_none (by have := HN.out; have := HL.out; omega)]
        have HA2 := Lib.hid hA2
        clear hA2
        go_wp2_with fail
        go_ret2
        refine ⟨.slice (some ⟨w1.heap.size, 0, none⟩) n n, ?_, ?_, HB1.out.trans (HB.out.mono HB1.out.size)⟩
        · rw [HA2.out]; rfl
        · rw [HA2.out]; exact HO.out.lower HB1.out.size
end Go.Proofs.YtmoofcmmpemdcaaGreatDoor
