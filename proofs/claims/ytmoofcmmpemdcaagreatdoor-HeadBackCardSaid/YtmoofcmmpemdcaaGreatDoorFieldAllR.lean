/- The reference's All. -/
import Derived.Test.YtmoofcmmpemdcaaGreatDoorFieldAll
set_option linter.unusedSimpArgs false
set_option linter.unusedVariables false
namespace Go.Proofs.YtmoofcmmpemdcaaGreatDoor
open Go.RowKit
theorem OwnF.empty (w : World) : OwnF (w.alloc (.cells #[] 95)) w.heap.size (.slice (some ⟨w.heap.size, 0, none⟩) 0 0) [] := World.ownsRow_lit w #[] 0 (Nat.le_refl _) (by decide) rfl
/-- One field more behind the row. -/
theorem wpList_push_fld {ops : Array Oper} {rest : List Oper} {o : Oper} {a : Act} {Q : Exit → Act → World → Prop} (hgd : o.guard = none) (s x : Operand)
    (ho : o.op = .call { callee := .builtin .append, args := #[s, x], argTypes := #[22, 22] }) {w : World} {B : Nat} {v : Value} {l : List Fd} (hs : a.eval s = v) (hown : OwnF w B v l) (y1 y2 : ByteArray)
    (H : Nat) (hH : w.heap.size = H) (hx : a.eval x = .slice (some ⟨H, 0, none⟩) 1 1) (hl : l.length ≤ 1000000) (hB : B ≤ w.heap.size)
    (h : ∀ p c w1, OwnF w1 B (.slice p (l.length + 1) c) (l ++ [(y1, y2)]) → (w.alloc (.cells #[.string y1, .string y2] 95)).grownBy w1 v.ownBlock → Below B w w1 → wpList Tryz.prog ops Q rest (a.put o.dst (.slice p (l.length + 1) c)) w1) :
    wpList Tryz.prog ops Q (o :: rest) a (w.alloc (.cells #[.string y1, .string y2] 95)) := by
  subst hH
  obtain ⟨i0, hi, hz0, hz1, hz2⟩ := info_parts info_field
  have hown' : World.ownsRow (w.alloc (.cells #[.string y1, .string y2] 95)) B 95 2 v l.length (flat l) := World.ownsRow.alloc hown _
  have hlo := hown'.lt
  refine wpList_append_own _ hgd s x 22 ho B 95 i0 _ 2 32 Tryz.underlying22 hi hz0 hz1 hz2 rfl (by decide) v l.length (flat l) hs hown' ⟨w.heap.size, 0, none⟩ 1 1 [.string y1, .string y2] hx rfl ?c1 ?c2 ?c3 ?c4 ?c5 ?_
  case c1 => exact World.news_of_block (cs := #[.string y1, .string y2]) (t := 95) (fr := (0, 0)) (heap_alloc_new w _)
  case c2 => simp [Value.oneCell']
  case c3 => unfold maxLen; omega
  case c4 => omega
  case c5 => simp; omega
  intro v' w1 hown1 hg _
  obtain ⟨p', c', rfl⟩ := own_slice hown1
  refine h p' c' w1 ?_ hg (((Below.refl _ _).alloc hB _).grown hg (by simp; omega) (fun j hj => by have := (hlo j hj).1; omega))
  show w1.ownsRow B 95 2 _ (l ++ [(y1, y2)]).length (flat (l ++ [(y1, y2)]))
  rw [List.length_append, flat_append]
  exact hown1
set_option maxRecDepth 100000 in
set_option maxHeartbeats 4000000 in
theorem rfall_any (fold : Int) (v : Value) (l : List ByteArray) (w : World) (h : Strs w v l) (hn : l.length ≤ 500000) (ht : tot l ≤ 500000) :
    Calls Tryz.prog 113 #[.int .i64 fold, v] w fun e w' => ∃ v', e = .returned (.tuple #[v', .int .i64 (allF fold l).2]) ∧ OwnF w' w.heap.size v' (allF fold l).1 ∧ Below w.heap.size w w' := by
  have HU := Lib.hid (runfold_any fold v l w h hn ht)
  cases hu : ufold fold l with
  | none =>
    have hA : allF fold l = ([], 3) := by unfold allF; rw [hu]
    have HA := Lib.hid hA
    have HU2 := HU.out
    rw [hu] at HU2
    have HU2 := Lib.hid HU2
    clear hA h hn ht hu HU
    go_enter Tryz.func113, Tryz.ntmps113
    go_wp2_with (go_at_call 162; refine HU2.out.mono ?_; rintro e' w1 ⟨v1, rfl, hv1, hb1⟩; have HB1 := Lib.hid hb1; clear hb1; have hv1 : v1 = .slice none 0 0 := hv1; subst hv1)
    refine wp_loop_rounds 1 ?_
    rw [rounds_succ]
    go_wp2_with fail
    go_ret2
    refine ⟨.slice (some ⟨w1.heap.size, 0, none⟩) 0 0, ?_, ?_, HB1.out.alloc HB1.out.size _⟩
    · rw [HA.out]; rfl
    · rw [HA.out]; exact (OwnF.empty w1).lower HB1.out.size
  | some out =>
    have hA : allF fold l = pAcc out := by unfold allF; rw [hu]
    have HA := Lib.hid hA
    have HU2 := HU.out
    rw [hu] at HU2
    have HU2 := Lib.hid HU2
    have hlen : out.length ≤ l.length := by
      have := (ufold_len fold l l.length (Nat.le_refl _) out (by rw [List.take_length]; exact hu)).1
      exact this
    have hsz : ∀ x ∈ out, x.size ≤ 1000000 := fun x hx => by
      have := ufold_le (Nat.le_refl l.length) (by rw [List.take_length]; exact hu) hx
      omega
    have HSZ := Lib.hid hsz
    obtain ⟨n, hnn⟩ : ∃ n, n = out.length := ⟨_, rfl⟩
    have hn5 : n ≤ 500000 := by omega
    have HN := Lib.hid hnn
    clear hA h hn ht hu HU hlen hsz hnn
    go_enter Tryz.func113, Tryz.ntmps113
    go_wp2_with (go_at_call 162; refine HU2.out.mono ?_; rintro e' w1 ⟨v1, rfl, hv1, hb1⟩; have HB1 := Lib.hid hb1; have HO1 := Lib.hid (show OwnS w1 w.heap.size v1 out from hv1); clear hb1 hv1; obtain ⟨p1, c1, hsh, hcell⟩ := HO1.out.strs; rw [← HN.out] at hsh; subst hsh; have HCE := Lib.hid hcell; clear hcell)
    have HO2 := Lib.hid (OwnF.empty w1)
    have HB2 := Lib.hid ((Below.refl w1.heap.size w1).alloc (Nat.le_refl _) (.cells #[] 95))
    go_loopw [8, 9] (fun u8 u9 wr => ∃ (k : Nat) (L : List Fd), k ≤ n ∧ u9 = .int .i64 k ∧ L.length = k ∧ OwnF wr w1.heap.size u8 L ∧ (∀ j (hj : j < out.length), j < k → L[j]? = some (fparse out[j]).1 ∧ (fparse out[j]).2 = 0) ∧ Below w1.heap.size w1 wr) (fun _ u9 _ => n - (intOf u9).toNat)
    case atStart => exact ⟨0, [], Nat.zero_le _, rfl, rfl, HO2.out, fun j _ hj => absurd hj (Nat.not_lt_zero _), HB2.out⟩
    case round =>
      obtain ⟨k, L, hk, rfl, hL, hown, hpre, hb⟩ := hrel
      have HO := Lib.hid hown
      have HP := Lib.hid hpre
      have HB := Lib.hid hb
      have HL := Lib.hid hL
      clear hown hpre hb hL
      by_cases hlt : k < n
      · have hk1 : decide ((k : Int) < (n : Int)) = true := decide_eq_true (by omega)
        have hko : k < out.length := by have := HN.out; omega
        obtain ⟨b, off, hp, h1⟩ := HCE.out k hko
        subst hp
        have h2 := (bcell HB.out b _ (World.block_lt_of_cell? _ _ h1)).trans h1
        obtain ⟨s, hs⟩ : ∃ s, s = out[k] := ⟨_, rfl⟩
        rw [← hs] at h2
        have hss : s.size ≤ 1000000 := HSZ.out s (by rw [hs]; exact List.getElem_mem hko)
        have HPA := Lib.hid (rfparse_any s hss wr)
        have HSO := Lib.hid hs
        have HKO := Lib.hid hko
        obtain ⟨f, hf⟩ : ∃ f, fparse s = f := ⟨_, rfl⟩
        obtain ⟨⟨f1, f2⟩, f3⟩ := f
        rw [hf] at HPA
        have HF := Lib.hid hf
        have hwr := HB.out.size
        clear hs hss hf h1
        by_cases h3 : f3 = 0
        · subst h3
          go_wp2_with (first | (go_at_call 163; refine HPA.out.mono ?_; rintro e' w3 ⟨rfl, hb3⟩; have HB3 := Lib.hid hb3; have HO3 := Lib.hid (OwnF.alloc (HO.out.call hb3) (.cells #[.string f1, .string f2] 95)); have hw3 := hb3.size; clear hb3) | (at_builtin; refine wpList_push_fld rfl _ _ rfl rfl HO3.out f1 f2 _ (by simp) rfl (by have := HL.out; omega) (by simp; omega) ?_))
          intro p4 c4 w4 hown4 _ hb4
          have HO4 := Lib.hid hown4
          have HB4 := Lib.hid hb4
          clear hown4 hb4
          go_wp2_with fail
          go_roundw
          case rel =>
            have hL := HL.out
            refine ⟨k + 1, L ++ [(f1, f2)], by omega, by go_num, by rw [List.length_append, hL]; rfl, HO4.out, ?_, ?_⟩
            · intro j hj hjk
              by_cases e : j = k
              · subst e
                rw [List.getElem?_append_right (by omega), hL, Nat.sub_self, ← HSO.out, HF.out]
                exact ⟨rfl, rfl⟩
              · rw [List.getElem?_append_left (by omega)]
                exact HP.out j hj (by omega)
            · exact ((HB.out.trans (HB3.out.mono hwr)).alloc (by omega) _).trans HB4.out
          case measure => simp [intOf]; omega
        · have hne : (f3 != 0) = true := by simpa using h3
          have hA2 : allF fold l = ([], f3) := by
            rw [HA.out, pAcc_err out k HKO.out (fun j hj hjk => (HP.out j hj hjk).2) (by rw [← HSO.out, HF.out]; exact h3), ← HSO.out, HF.out]
          have HA2 := Lib.hid hA2
          clear hA2 h3
          go_wp2_with (go_at_call 163; refine HPA.out.mono ?_; rintro e' w3 ⟨rfl, hb3⟩; have HB3 := Lib.hid hb3; have hw3 := hb3.size; clear hb3)
          go_ret2
          refine ⟨.slice none 0 0, ?_, ?_, ?_⟩
          · rw [HA2.out]; rfl
          · rw [HA2.out]; exact OwnF.start _ _
          · exact HB1.out.trans (((HB.out.trans (HB3.out.mono hwr)).alloc (by omega) _).mono HB1.out.size)
      · have hk1 : decide ((k : Int) < (n : Int)) = false := decide_eq_false (by omega)
        have hA2 : allF fold l = (L, 0) := by
          rw [HA.out, pAcc_ok out (fun j hj => (HP.out j hj (by have := HN.out; omega)).2)]
          refine Prod.ext (List.ext_getElem? fun j => ?_) rfl
          show (out.map fun s => (fparse s).1)[j]? = L[j]?
          by_cases hj : j < out.length
          · rw [(HP.out j hj (by have := HN.out; omega)).1, List.getElem?_map, List.getElem?_eq_getElem hj]
            rfl
          · rw [List.getElem?_eq_none (by rw [List.length_map]; omega), List.getElem?_eq_none (by have := HN.out; have := HL.out; omega)]
        have HA2 := Lib.hid hA2
        clear hA2
        go_wp2_with fail
        go_ret2
        refine ⟨u8, ?_, ?_, HB1.out.trans (HB.out.mono HB1.out.size)⟩
        · rw [HA2.out]; rfl
        · rw [HA2.out]; exact HO.out.lower HB1.out.size
end Go.Proofs.YtmoofcmmpemdcaaGreatDoor
