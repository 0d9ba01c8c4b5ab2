/- Texts packed for one claim, 29 of 49: Pars. -/
import Derived.Test.YtbglakhojbhfbaaGreatDoorEncodeBackQ28
set_option linter.unusedSimpArgs false
set_option linter.unusedVariables false
-- Pars
namespace Go.Proofs.YtbglakhojbhfbaaGreatDoor
open Go.RowKit
theorem CurAt.far {w : World} {g : Nat} {s : ByteArray} {a bb : Nat} (h : CurAt w g s a) (hp : ¬ CurP g bb) (u : Value) : CurAt (w.setCell ⟨bb, 0, none⟩ u) g s a := ⟨h.k.far (p := ⟨bb, 0, none⟩) (fun e => hp e.symm) u, h.le⟩
theorem bool_set {w : World} {g : Nat} {x : Bool} (h : Blk w g #[.bool x] 4) (y : Bool) : Blk (w.setCell ⟨g, 0, none⟩ (.bool y)) g #[.bool y] 4 := by
  have := h.set 0 (.bool y)
  simpa using this
theorem l_set {w : World} {g : Nat} {x : Value} (h : Blk w g #[x] 106) (y : Value) : Blk (w.setCell ⟨g, 0, none⟩ y) g #[y] 106 := by
  have := h.set 0 y
  simpa using this
/-- Own rows of parameters. -/
def OwnP (w : World) (B : Nat) (v : Value) (l : List Fd) : Prop := w.ownsRow B 120 2 v l.length (flat l)
theorem info_param : (Tryz.prog.info? 120).map (fun i => (i.zero, i.size, i.bytes)) = some (some (.agg #[.string ⟨#[]⟩, .string ⟨#[]⟩]), 2, 32) := by kernel_rfl
theorem ownP_blk {w : World} {B : Nat} {v : Value} {l : List Fd} (h : OwnP w B v l) : ∀ k, v.ownBlock = some k → B ≤ k ∧ ∃ cs, w.heap[k]? = some (.cells cs 120 (0, 0)) := by
  intro k hk
  obtain ⟨_, h2⟩ := h
  rcases h2 with ⟨rfl, _⟩ | ⟨g', cap, cur, rfl, hB, hg, _⟩
  · cases hk
  · have : g' = k := by injection hk
    subst this
    exact ⟨hB, cur, hg⟩
theorem wpList_push_par {ops : Array Oper} {rest : List Oper} {o : Oper} {a : Act} {Q : Exit → Act → World → Prop} (hgd : o.guard = none) (s x : Operand)
    (ho : o.op = .call { callee := .builtin .append, args := #[s, x], argTypes := #[106, 106] }) {w : World} {B : Nat} {v : Value} {l : List Fd} (hs : a.eval s = v) (hown : OwnP w B v l) (y1 y2 : ByteArray)
    (H : Nat) (hH : w.heap.size = H) (hx : a.eval x = .slice (some ⟨H, 0, none⟩) 1 1) (hl : l.length ≤ 1000000) (hB : B ≤ w.heap.size)
    (h : ∀ p c w1, OwnP w1 B (.slice p (l.length + 1) c) (l ++ [(y1, y2)]) → Touch (fun k => v.ownBlock = some k) w w1 → wpList Tryz.prog ops Q rest (a.put o.dst (.slice p (l.length + 1) c)) w1) :
    wpList Tryz.prog ops Q (o :: rest) a (w.alloc (.cells #[.string y1, .string y2] 120)) := by
  subst hH
  obtain ⟨i0, hi, hz0, hz1, hz2⟩ := info_parts info_param
  have hown' : World.ownsRow (w.alloc (.cells #[.string y1, .string y2] 120)) B 120 2 v l.length (flat l) := World.ownsRow.alloc hown _
  refine wpList_append_own _ hgd s x 106 ho B 120 i0 _ 2 32 Tryz.underlying106 hi hz0 hz1 hz2 rfl (by decide) v l.length (flat l) hs hown' ⟨w.heap.size, 0, none⟩ 1 1 [.string y1, .string y2] hx rfl ?c1 ?c2 ?c3 ?c4 ?c5 ?_
  case c1 => exact World.news_of_block (cs := #[.string y1, .string y2]) (t := 120) (fr := (0, 0)) (heap_alloc_new w _)
  case c2 => simp [Value.oneCell']
  case c3 => unfold maxLen; omega
  case c4 => omega
  case c5 => simp; omega
  intro v' w1 hown1 hg _
  obtain ⟨p', c', rfl⟩ := own_slice hown1
  refine h p' c' w1 ?_ (((Touch.refl _ w).alloc (.cells #[.string y1, .string y2] 120)).trans ⟨hg.os, hg.tape, hg.output, hg.size, fun k hk hne => hg.block k hk (fun e => hne e.symm)⟩)
  show w1.ownsRow B 120 2 _ (l ++ [(y1, y2)]).length (flat (l ++ [(y1, y2)]))
  rw [List.length_append, flat_append]
  exact hown1
/-- What a parameter's reading may write: the cursor, what is wrong, the row so far. -/
def PrP (g bb bl : Nat) (v : Value) (k : Nat) : Prop := CurP g k ∨ k = bb ∨ k = bl ∨ v.ownBlock = some k
set_option maxRecDepth 100000 in
set_option maxHeartbeats 8000000 in
theorem next_walk (w : World) (g bc bb bl B at_ a1 a2 a3 a4 t : Nat) (s : ByteArray) (hs : s.size ≤ 1000000) (v : Value) (l : List Fd) (H : Hid (CurAt w g s at_)) (KC : Hid (Blk w bc #[.pointer (some ⟨g, 0, none⟩)] 117)) (KB : Hid (Blk w bb #[.bool false] 4)) (KL : Hid (Blk w bl #[v] 106))
    (HO : Hid (OwnP w B v l)) (hBl : Hid (bl < B ∧ bb < B ∧ g < B ∧ bc < B)) (HBZ : Hid (B ≤ w.heap.size)) (HLL : Hid (l.length ≤ 1000000))
    (NE : Hid (¬ CurP g bc ∧ ¬ CurP g bb ∧ ¬ CurP g bl ∧ bc ≠ bb ∧ bl ≠ bb ∧ bc ≠ bl)) (b1 t0 vs : Bool) (V : Option Nat) (X NM : ByteArray)
    (HA1 : Hid (a1 = at_ + skipN (s.data.toList.drop at_))) (HB1 : Hid (isB 59 (s.data.toList.drop a1) = b1)) (HA2 : Hid (a2 = a1 + if b1 = true then 1 else 0)) (HA3 : Hid (a3 = a2 + skipN (s.data.toList.drop a2))) (HT : Hid (t = tokN (s.data.toList.drop a3))) (HA4 : Hid (a4 = a3 + t))
    (HX : Hid (X = s.extract a3 a4)) (HXS : Hid (X.size ≤ 1000000)) (HNM : Hid (NM = lowB X)) (hne : NM.toList.isEmpty = t0) (HV : Hid (V = valF (s.data.toList.drop a4))) (HVS : Hid (V.isSome = vs)) :
    Calls Tryz.prog 78 #[.pointer (some ⟨bc, 0, none⟩), .pointer (some ⟨bb, 0, none⟩), .pointer (some ⟨bl, 0, none⟩)] w fun e w' => ∃ a5 E v' q, e = .returned (.bool (b1 && (!t0 && (vs && E)))) ∧ CurAt w' g s a5 ∧ (∀ n, V = some n → a5 = a4 + n) ∧ (b1 = true → t0 = false → vs = true → E = !(s.data.toList.drop a5).isEmpty) ∧
      Blk w' bc #[.pointer (some ⟨g, 0, none⟩)] 117 ∧ Blk w' bb #[.bool (!(b1 && (!t0 && vs)))] 4 ∧ Blk w' bl #[v'] 106 ∧ OwnP w' B v' (l ++ [q]) ∧ Touch (PrP g bb bl v) w w' := by
  have c0 := KC.out.cell 0
  have b0 := KB.out.cell 0
  have l0 := KL.out.cell 0
  have f0 := KB.out.froz 0
  have f1 := KL.out.froz 0
  simp at c0 b0 l0
  have HLT : Hid (∀ k, v.ownBlock = some k → B ≤ k ∧ k < w.heap.size) := fun k hk => by obtain ⟨h1, cs, h2⟩ := ownP_blk HO.out k hk; exact ⟨h1, (Array.getElem?_eq_some_iff.1 h2).1⟩
  have NG : Hid (∀ k, v.ownBlock = some k → ¬ CurP g k) := fun k hk e => by have h1 := (HLT.out k hk).1; have h2 := hBl.out.2.2.1; rw [show k = g from e] at h1; omega
  cases b1 <;> cases t0 <;> cases vs
  ·
    go_enter Tryz.func78, Tryz.ntmps78
    go_wp2_with fail
    refine (skip_any H.out hs).mono ?_
    rintro e1 w1 ⟨rfl, hc1, ht1⟩
    rw [← HA1.out] at hc1
    have H1 := Lib.hid hc1
    have T1 : Hid (Touch (PrP g bb bl v) w w1) := ht1.mono (fun _ _ h => Or.inl h)
    have K1 := Lib.hid (KC.out.touch ht1 NE.out.1)
    have B1 := Lib.hid (KB.out.touch ht1 NE.out.2.1)
    have L1 := Lib.hid (KL.out.touch ht1 NE.out.2.2.1)
    have O1 := Lib.hid (own_touch HO.out ht1 NG.out)
    clear hc1 ht1 c0 b0 l0 f0 f1
    have c0 := K1.out.cell 0
    have b0 := B1.out.cell 0
    have f0 := B1.out.froz 0
    simp at c0 b0
    go_wp2_with fail
    refine (byte_any H1.out hs 59).mono ?_
    rintro e2 w2 ⟨rfl, hc2, ht2⟩
    rw [HB1.out]
    have hc2 : CurAt w2 g s a2 := by
      have h := HA2.out
      rw [HB1.out] at hc2
      (try simp at hc2)
      (try simp at h)
      rw [h]
      exact hc2
    have H2 := Lib.hid hc2
    have T2 := Lib.hid (touch_up T1.out ht2 (fun _ _ h => Or.inl h))
    have K2 := Lib.hid (K1.out.touch ht2 NE.out.1)
    have B2 := Lib.hid (B1.out.touch ht2 NE.out.2.1)
    have L2 := Lib.hid (L1.out.touch ht2 NE.out.2.2.1)
    have O2 := Lib.hid (own_touch O1.out ht2 NG.out)
    clear hc2 ht2 c0 b0 f0
    have c0 := K2.out.cell 0
    have b0 := B2.out.cell 0
    have f0 := B2.out.froz 0
    have c1 := (K2.out.far (p := ⟨bb, 0, none⟩) NE.out.2.2.2.1 (.bool true)).cell 0
    simp at c0 b0 c1
    go_wp2_with fail
    refine (skip_any (H2.out.far NE.out.2.1 (.bool true)) hs).mono ?_
    rintro e3 w3 ⟨rfl, hc3, ht3⟩
    rw [← HA3.out] at hc3
    have H3 := Lib.hid hc3
    have T3 := Lib.hid (touch_up (T2.out.setCell (p := ⟨bb, 0, none⟩) (Or.inr (Or.inl rfl)) _) ht3 (fun _ _ h => Or.inl h))
    have K3 := Lib.hid ((K2.out.far (p := ⟨bb, 0, none⟩) NE.out.2.2.2.1 _).touch ht3 NE.out.1)
    have B3 := Lib.hid ((bool_set B2.out true).touch ht3 NE.out.2.1)
    have L3 := Lib.hid ((L2.out.far (p := ⟨bb, 0, none⟩) NE.out.2.2.2.2.1 _).touch ht3 NE.out.2.2.1)
    have O3 := Lib.hid (own_touch (own_touch O2.out (Touch.setCell (P := fun k => k = bb) (p := ⟨bb, 0, none⟩) (Touch.refl _ _) rfl (.bool true)) (fun k hk e => by have h1 := (HLT.out k hk).1; have h2 := hBl.out.2.1; omega)) ht3 NG.out)
    clear hc3 ht3 c0 b0 f0 c1
    have c0 := K3.out.cell 0
    simp at c0
    go_wp2_with fail
    refine (ctoken_any H3.out hs).mono ?_
    rintro e4 w4 ⟨rfl, hc4, ht4⟩
    rw [← HT.out] at hc4 ⊢
    rw [← HA4.out] at hc4 ⊢
    rw [← HX.out]
    have H4 := Lib.hid hc4
    have T4 := Lib.hid (touch_up T3.out ht4 (fun _ _ h => Or.inl h))
    have K4 := Lib.hid (K3.out.touch ht4 NE.out.1)
    have B4 := Lib.hid (B3.out.touch ht4 NE.out.2.1)
    have L4 := Lib.hid (L3.out.touch ht4 NE.out.2.2.1)
    have O4 := Lib.hid (own_touch O3.out ht4 NG.out)
    clear hc4 ht4 c0
    go_wp2_with fail
    refine (olower_any X HXS.out w4).mono ?_
    rintro e5 w5 ⟨rfl, hb5⟩
    rw [← HNM.out]
    have hb6 : Below w4.heap.size w4 (w5.alloc (.cells #[.string NM, .string ⟨#[]⟩] 120)) := hb5.alloc hb5.size _
    have HP : Hid (Blk (w5.alloc (.cells #[.string NM, .string ⟨#[]⟩] 120)) w5.heap.size #[.string NM, .string ⟨#[]⟩] 120) := Blk.new _ _ _
    have HGP : Hid (w.heap.size ≤ w5.heap.size) := Nat.le_trans T4.out.size hb5.size
    have H6 := Lib.hid (H4.out.call hb6)
    have T6 := Lib.hid (touch_up T4.out (Touch.of_below (P := fun _ => False) hb6) (fun _ _ h => h.elim))
    have K6 := Lib.hid (K4.out.call hb6)
    have B6 := Lib.hid (B4.out.call hb6)
    have L6 := Lib.hid (L4.out.call hb6)
    have O6 := Lib.hid (own_touch O4.out (Touch.of_below (P := fun _ => False) hb6) (fun _ _ => id))
    have NP : Hid (bc ≠ w5.heap.size ∧ bb ≠ w5.heap.size ∧ bl ≠ w5.heap.size ∧ g ≠ w5.heap.size) := by
      have h1 := hBl.out
      have h2 := HBZ.out
      have h3 := HGP.out
      refine ⟨?_, ?_, ?_, ?_⟩ <;> omega
    have b0 := B6.out.cell 0
    have f0 := B6.out.froz 0
    have p0 := HP.out.cell 0
    have c0 := (K6.out.far (p := ⟨bb, 0, none⟩) NE.out.2.2.2.1 (.bool true)).cell 0
    have K7 := Lib.hid (K6.out.far (p := ⟨bb, 0, none⟩) NE.out.2.2.2.1 (.bool true))
    have B7 := Lib.hid (bool_set B6.out true)
    have L7 := Lib.hid (L6.out.far (p := ⟨bb, 0, none⟩) NE.out.2.2.2.2.1 (.bool true))
    have P7 := Lib.hid (HP.out.far (p := ⟨bb, 0, none⟩) NP.out.2.1.symm (.bool true))
    have H7 := Lib.hid (H6.out.far NE.out.2.1 (.bool true))
    have T7 := Lib.hid (T6.out.setCell (p := ⟨bb, 0, none⟩) (Or.inr (Or.inl rfl)) (.bool true))
    have O7 := Lib.hid (own_touch O6.out (Touch.setCell (P := fun k => k = bb) (p := ⟨bb, 0, none⟩) (Touch.refl _ _) rfl (.bool true)) (fun k hk e => by have h1 := (HLT.out k hk).1; have h2 := hBl.out.2.1; omega))
    simp at b0 p0 c0
    clear hb5 hb6
    go_wp2_with fail
    refine (pvalue_any H7.out hs HV.out).mono ?_
    rintro e8 w8 ⟨tx, a5, rfl, hc8, hV8, ht8⟩
    rw [HVS.out]
    have H8 := Lib.hid hc8
    have HV8 := Lib.hid hV8
    have T8 := Lib.hid (touch_up T7.out ht8 (fun _ _ h => Or.inl h))
    have K8 := Lib.hid (K7.out.touch ht8 NE.out.1)
    have B8 := Lib.hid (B7.out.touch ht8 NE.out.2.1)
    have L8 := Lib.hid (L7.out.touch ht8 NE.out.2.2.1)
    have P8 := Lib.hid (P7.out.touch ht8 (fun e => NP.out.2.2.2 (show w5.heap.size = g from e).symm))
    have O8 := Lib.hid (own_touch O7.out ht8 NG.out)
    have HZ8 : Hid (w.heap.size ≤ w8.heap.size) := T8.out.size
    clear hc8 hV8 ht8 b0 f0 p0 c0
    have fp1 := P8.out.froz 1
    have cp1 := P8.out.cell 1
    have P9a : Hid (Blk (w8.setCell ⟨w5.heap.size, 1, none⟩ (.string tx)) w5.heap.size #[.string NM, .string tx] 120) := by
      have h := P8.out.set 1 (.string tx)
      show Blk _ _ _ _
      simpa using h
    have B9a := Lib.hid (B8.out.far (p := ⟨w5.heap.size, 1, none⟩) NP.out.2.1 (.string tx))
    have L9a := Lib.hid (L8.out.far (p := ⟨w5.heap.size, 1, none⟩) NP.out.2.2.1 (.string tx))
    have K9a := Lib.hid (K8.out.far (p := ⟨w5.heap.size, 1, none⟩) NP.out.1 (.string tx))
    have H9a : Hid (CurAt (w8.setCell ⟨w5.heap.size, 1, none⟩ (.string tx)) g s a5) := ⟨H8.out.k.far (p := ⟨w5.heap.size, 1, none⟩) NP.out.2.2.2 (.string tx), H8.out.le⟩
    have O9a := Lib.hid (own_touch O8.out (Touch.setCell (P := fun k => k = w5.heap.size) (p := ⟨w5.heap.size, 1, none⟩) (Touch.refl _ _) rfl (.string tx)) (fun k hk e => by have h1 := (HLT.out k hk).2; have h2 := HGP.out; omega))
    have T9a : Hid (Touch (PrP g bb bl v) w (w8.setCell ⟨w5.heap.size, 1, none⟩ (.string tx))) := touch_up T8.out (Touch.setCell (P := fun k => k = w5.heap.size) (p := ⟨w5.heap.size, 1, none⟩) (Touch.refl _ _) rfl (.string tx)) (fun i hi e => by have h2 := HGP.out; omega)
    have b9 := B9a.out.cell 0
    have f9 := B9a.out.froz 0
    simp at b9
    have P9 := Lib.hid (P9a.out.far (p := ⟨bb, 0, none⟩) NP.out.2.1.symm (.bool true))
    have B9 := Lib.hid (bool_set B9a.out true)
    have L9 := Lib.hid (L9a.out.far (p := ⟨bb, 0, none⟩) NE.out.2.2.2.2.1 (.bool true))
    have K9 := Lib.hid (K9a.out.far (p := ⟨bb, 0, none⟩) NE.out.2.2.2.1 (.bool true))
    have H9 := Lib.hid (H9a.out.far NE.out.2.1 (.bool true))
    have O9 : Hid (OwnP ((w8.setCell ⟨w5.heap.size, 1, none⟩ (.string tx)).setCell ⟨bb, 0, none⟩ (.bool true)) B v l) := (own_touch O9a.out (Touch.setCell (P := fun k => k = bb) (p := ⟨bb, 0, none⟩) (Touch.refl _ _) rfl (.bool true)) (fun k hk e => by have h1 := (HLT.out k hk).1; have h2 := hBl.out.2.1; omega))
    have T9 := Lib.hid (T9a.out.setCell (p := ⟨bb, 0, none⟩) (Or.inr (Or.inl rfl)) (.bool true))
    have l0 := L9.out.cell 0
    have q0 := P9.out.cell 0
    have q1 := P9.out.cell 1
    simp at cp1 l0 q0 q1
    have HZ9 : Hid (B ≤ ((w8.setCell ⟨w5.heap.size, 1, none⟩ (.string tx)).setCell ⟨bb, 0, none⟩ (.bool true)).heap.size) := Nat.le_trans HBZ.out T9.out.size
    go_wp2_with (at_builtin; refine wpList_push_par rfl _ _ rfl rfl O9.out NM tx _ (by simp) rfl HLL.out HZ9.out ?_; intro p10 c10 w10 ho10 ht10; have O10 := Lib.hid ho10; have L10 := Lib.hid (L9.out.touch ht10 (fun e => by have h1 := (HLT.out bl e).1; have h2 := hBl.out.1; omega)); have B10 := Lib.hid (B9.out.touch ht10 (fun e => by have h1 := (HLT.out bb e).1; have h2 := hBl.out.2.1; omega)); have K10 := Lib.hid (K9.out.touch ht10 (fun e => by have h1 := (HLT.out bc e).1; have h2 := hBl.out.2.2.2; omega)); have H10 : Hid (CurAt w10 g s a5) := ⟨H9.out.k.touch ht10 (fun e => by have h1 := (HLT.out g e).1; have h2 := hBl.out.2.2.1; omega), H9.out.le⟩; have T10 := Lib.hid (touch_up T9.out ht10 (fun _ _ h => Or.inr (Or.inr (Or.inr h)))); have k10 := L10.out.cell 0; have g10 := L10.out.froz 0; have B11 := Lib.hid (B10.out.far (p := ⟨bl, 0, none⟩) NE.out.2.2.2.2.1.symm (.slice p10 (l.length + 1) c10)); have K11 := Lib.hid (K10.out.far (p := ⟨bl, 0, none⟩) NE.out.2.2.2.2.2 (.slice p10 (l.length + 1) c10)); have H11 := Lib.hid (H10.out.far NE.out.2.2.1 (.slice p10 (l.length + 1) c10)); have u10 := B11.out.cell 0; have v10 := K11.out.cell 0; simp at k10 u10 v10; clear ho10 ht10)
    go_ret
    have L11 := l_set L10.out (.slice p10 (l.length + 1) c10)
    have O11 := own_touch O10.out (Touch.setCell (P := fun k => k = bl) (p := ⟨bl, 0, none⟩) (Touch.refl _ _) rfl (.slice p10 (l.length + 1) c10)) (fun k hk e => by have h1 := (ownP_blk O10.out k hk).1; have h2 := hBl.out.1; omega)
    refine ⟨a5, false, _, (NM, tx), rfl, H11.out, HV8.out, (fun h => by cases h), K11.out, B11.out, L11, ?_, ?_⟩
    · exact O11
    · exact T10.out.setCell (p := ⟨bl, 0, none⟩) (Or.inr (Or.inr (Or.inl rfl))) _
  ·
    go_enter Tryz.func78, Tryz.ntmps78
    go_wp2_with fail
    refine (skip_any H.out hs).mono ?_
    rintro e1 w1 ⟨rfl, hc1, ht1⟩
    rw [← HA1.out] at hc1
    have H1 := Lib.hid hc1
    have T1 : Hid (Touch (PrP g bb bl v) w w1) := ht1.mono (fun _ _ h => Or.inl h)
    have K1 := Lib.hid (KC.out.touch ht1 NE.out.1)
    have B1 := Lib.hid (KB.out.touch ht1 NE.out.2.1)
    have L1 := Lib.hid (KL.out.touch ht1 NE.out.2.2.1)
    have O1 := Lib.hid (own_touch HO.out ht1 NG.out)
    clear hc1 ht1 c0 b0 l0 f0 f1
    have c0 := K1.out.cell 0
    have b0 := B1.out.cell 0
    have f0 := B1.out.froz 0
    simp at c0 b0
    go_wp2_with fail
    refine (byte_any H1.out hs 59).mono ?_
    rintro e2 w2 ⟨rfl, hc2, ht2⟩
    rw [HB1.out]
    have hc2 : CurAt w2 g s a2 := by
      have h := HA2.out
      rw [HB1.out] at hc2
      (try simp at hc2)
      (try simp at h)
      rw [h]
      exact hc2
    have H2 := Lib.hid hc2
    have T2 := Lib.hid (touch_up T1.out ht2 (fun _ _ h => Or.inl h))
    have K2 := Lib.hid (K1.out.touch ht2 NE.out.1)
    have B2 := Lib.hid (B1.out.touch ht2 NE.out.2.1)
    have L2 := Lib.hid (L1.out.touch ht2 NE.out.2.2.1)
    have O2 := Lib.hid (own_touch O1.out ht2 NG.out)
    clear hc2 ht2 c0 b0 f0
    have c0 := K2.out.cell 0
    have b0 := B2.out.cell 0
    have f0 := B2.out.froz 0
    have c1 := (K2.out.far (p := ⟨bb, 0, none⟩) NE.out.2.2.2.1 (.bool true)).cell 0
    simp at c0 b0 c1
    go_wp2_with fail
    refine (skip_any (H2.out.far NE.out.2.1 (.bool true)) hs).mono ?_
    rintro e3 w3 ⟨rfl, hc3, ht3⟩
    rw [← HA3.out] at hc3
    have H3 := Lib.hid hc3
    have T3 := Lib.hid (touch_up (T2.out.setCell (p := ⟨bb, 0, none⟩) (Or.inr (Or.inl rfl)) _) ht3 (fun _ _ h => Or.inl h))
    have K3 := Lib.hid ((K2.out.far (p := ⟨bb, 0, none⟩) NE.out.2.2.2.1 _).touch ht3 NE.out.1)
    have B3 := Lib.hid ((bool_set B2.out true).touch ht3 NE.out.2.1)
    have L3 := Lib.hid ((L2.out.far (p := ⟨bb, 0, none⟩) NE.out.2.2.2.2.1 _).touch ht3 NE.out.2.2.1)
    have O3 := Lib.hid (own_touch (own_touch O2.out (Touch.setCell (P := fun k => k = bb) (p := ⟨bb, 0, none⟩) (Touch.refl _ _) rfl (.bool true)) (fun k hk e => by have h1 := (HLT.out k hk).1; have h2 := hBl.out.2.1; omega)) ht3 NG.out)
    clear hc3 ht3 c0 b0 f0 c1
    have c0 := K3.out.cell 0
    simp at c0
    go_wp2_with fail
    refine (ctoken_any H3.out hs).mono ?_
    rintro e4 w4 ⟨rfl, hc4, ht4⟩
    rw [← HT.out] at hc4 ⊢
    rw [← HA4.out] at hc4 ⊢
    rw [← HX.out]
    have H4 := Lib.hid hc4
    have T4 := Lib.hid (touch_up T3.out ht4 (fun _ _ h => Or.inl h))
    have K4 := Lib.hid (K3.out.touch ht4 NE.out.1)
    have B4 := Lib.hid (B3.out.touch ht4 NE.out.2.1)
    have L4 := Lib.hid (L3.out.touch ht4 NE.out.2.2.1)
    have O4 := Lib.hid (own_touch O3.out ht4 NG.out)
    clear hc4 ht4 c0
    go_wp2_with fail
    refine (olower_any X HXS.out w4).mono ?_
    rintro e5 w5 ⟨rfl, hb5⟩
    rw [← HNM.out]
    have hb6 : Below w4.heap.size w4 (w5.alloc (.cells #[.string NM, .string ⟨#[]⟩] 120)) := hb5.alloc hb5.size _
    have HP : Hid (Blk (w5.alloc (.cells #[.string NM, .string ⟨#[]⟩] 120)) w5.heap.size #[.string NM, .string ⟨#[]⟩] 120) := Blk.new _ _ _
    have HGP : Hid (w.heap.size ≤ w5.heap.size) := Nat.le_trans T4.out.size hb5.size
    have H6 := Lib.hid (H4.out.call hb6)
    have T6 := Lib.hid (touch_up T4.out (Touch.of_below (P := fun _ => False) hb6) (fun _ _ h => h.elim))
    have K6 := Lib.hid (K4.out.call hb6)
    have B6 := Lib.hid (B4.out.call hb6)
    have L6 := Lib.hid (L4.out.call hb6)
    have O6 := Lib.hid (own_touch O4.out (Touch.of_below (P := fun _ => False) hb6) (fun _ _ => id))
    have NP : Hid (bc ≠ w5.heap.size ∧ bb ≠ w5.heap.size ∧ bl ≠ w5.heap.size ∧ g ≠ w5.heap.size) := by
      have h1 := hBl.out
      have h2 := HBZ.out
      have h3 := HGP.out
      refine ⟨?_, ?_, ?_, ?_⟩ <;> omega
    have b0 := B6.out.cell 0
    have f0 := B6.out.froz 0
    have p0 := HP.out.cell 0
    have c0 := (K6.out.far (p := ⟨bb, 0, none⟩) NE.out.2.2.2.1 (.bool true)).cell 0
    have K7 := Lib.hid (K6.out.far (p := ⟨bb, 0, none⟩) NE.out.2.2.2.1 (.bool true))
    have B7 := Lib.hid (bool_set B6.out true)
    have L7 := Lib.hid (L6.out.far (p := ⟨bb, 0, none⟩) NE.out.2.2.2.2.1 (.bool true))
    have P7 := Lib.hid (HP.out.far (p := ⟨bb, 0, none⟩) NP.out.2.1.symm (.bool true))
    have H7 := Lib.hid (H6.out.far NE.out.2.1 (.bool true))
    have T7 := Lib.hid (T6.out.setCell (p := ⟨bb, 0, none⟩) (Or.inr (Or.inl rfl)) (.bool true))
    have O7 := Lib.hid (own_touch O6.out (Touch.setCell (P := fun k => k = bb) (p := ⟨bb, 0, none⟩) (Touch.refl _ _) rfl (.bool true)) (fun k hk e => by have h1 := (HLT.out k hk).1; have h2 := hBl.out.2.1; omega))
    simp at b0 p0 c0
    clear hb5 hb6
    go_wp2_with fail
    refine (pvalue_any H7.out hs HV.out).mono ?_
    rintro e8 w8 ⟨tx, a5, rfl, hc8, hV8, ht8⟩
    rw [HVS.out]
    have H8 := Lib.hid hc8
    have HV8 := Lib.hid hV8
    have T8 := Lib.hid (touch_up T7.out ht8 (fun _ _ h => Or.inl h))
    have K8 := Lib.hid (K7.out.touch ht8 NE.out.1)
    have B8 := Lib.hid (B7.out.touch ht8 NE.out.2.1)
    have L8 := Lib.hid (L7.out.touch ht8 NE.out.2.2.1)
    have P8 := Lib.hid (P7.out.touch ht8 (fun e => NP.out.2.2.2 (show w5.heap.size = g from e).symm))
    have O8 := Lib.hid (own_touch O7.out ht8 NG.out)
    have HZ8 : Hid (w.heap.size ≤ w8.heap.size) := T8.out.size
    clear hc8 hV8 ht8 b0 f0 p0 c0
    have fp1 := P8.out.froz 1
    have cp1 := P8.out.cell 1
    have P9a : Hid (Blk (w8.setCell ⟨w5.heap.size, 1, none⟩ (.string tx)) w5.heap.size #[.string NM, .string tx] 120) := by
      have h := P8.out.set 1 (.string tx)
      show Blk _ _ _ _
      simpa using h
    have B9a := Lib.hid (B8.out.far (p := ⟨w5.heap.size, 1, none⟩) NP.out.2.1 (.string tx))
    have L9a := Lib.hid (L8.out.far (p := ⟨w5.heap.size, 1, none⟩) NP.out.2.2.1 (.string tx))
    have K9a := Lib.hid (K8.out.far (p := ⟨w5.heap.size, 1, none⟩) NP.out.1 (.string tx))
    have H9a : Hid (CurAt (w8.setCell ⟨w5.heap.size, 1, none⟩ (.string tx)) g s a5) := ⟨H8.out.k.far (p := ⟨w5.heap.size, 1, none⟩) NP.out.2.2.2 (.string tx), H8.out.le⟩
    have O9a := Lib.hid (own_touch O8.out (Touch.setCell (P := fun k => k = w5.heap.size) (p := ⟨w5.heap.size, 1, none⟩) (Touch.refl _ _) rfl (.string tx)) (fun k hk e => by have h1 := (HLT.out k hk).2; have h2 := HGP.out; omega))
    have T9a : Hid (Touch (PrP g bb bl v) w (w8.setCell ⟨w5.heap.size, 1, none⟩ (.string tx))) := touch_up T8.out (Touch.setCell (P := fun k => k = w5.heap.size) (p := ⟨w5.heap.size, 1, none⟩) (Touch.refl _ _) rfl (.string tx)) (fun i hi e => by have h2 := HGP.out; omega)
    have P9 := P9a
    have B9 := B9a
    have L9 := L9a
    have K9 := K9a
    have H9 := H9a
    have T9 := T9a
    have O9 : Hid (OwnP (w8.setCell ⟨w5.heap.size, 1, none⟩ (.string tx)) B v l) := O9a
    have l0 := L9.out.cell 0
    have q0 := P9.out.cell 0
    have q1 := P9.out.cell 1
    simp at cp1 l0 q0 q1
    have HZ9 : Hid (B ≤ (w8.setCell ⟨w5.heap.size, 1, none⟩ (.string tx)).heap.size) := Nat.le_trans HBZ.out T9.out.size
    go_wp2_with (at_builtin; refine wpList_push_par rfl _ _ rfl rfl O9.out NM tx _ (by simp) rfl HLL.out HZ9.out ?_; intro p10 c10 w10 ho10 ht10; have O10 := Lib.hid ho10; have L10 := Lib.hid (L9.out.touch ht10 (fun e => by have h1 := (HLT.out bl e).1; have h2 := hBl.out.1; omega)); have B10 := Lib.hid (B9.out.touch ht10 (fun e => by have h1 := (HLT.out bb e).1; have h2 := hBl.out.2.1; omega)); have K10 := Lib.hid (K9.out.touch ht10 (fun e => by have h1 := (HLT.out bc e).1; have h2 := hBl.out.2.2.2; omega)); have H10 : Hid (CurAt w10 g s a5) := ⟨H9.out.k.touch ht10 (fun e => by have h1 := (HLT.out g e).1; have h2 := hBl.out.2.2.1; omega), H9.out.le⟩; have T10 := Lib.hid (touch_up T9.out ht10 (fun _ _ h => Or.inr (Or.inr (Or.inr h)))); have k10 := L10.out.cell 0; have g10 := L10.out.froz 0; have B11 := Lib.hid (B10.out.far (p := ⟨bl, 0, none⟩) NE.out.2.2.2.2.1.symm (.slice p10 (l.length + 1) c10)); have K11 := Lib.hid (K10.out.far (p := ⟨bl, 0, none⟩) NE.out.2.2.2.2.2 (.slice p10 (l.length + 1) c10)); have H11 := Lib.hid (H10.out.far NE.out.2.2.1 (.slice p10 (l.length + 1) c10)); have u10 := B11.out.cell 0; have v10 := K11.out.cell 0; simp at k10 u10 v10; clear ho10 ht10)
    go_ret
    have L11 := l_set L10.out (.slice p10 (l.length + 1) c10)
    have O11 := own_touch O10.out (Touch.setCell (P := fun k => k = bl) (p := ⟨bl, 0, none⟩) (Touch.refl _ _) rfl (.slice p10 (l.length + 1) c10)) (fun k hk e => by have h1 := (ownP_blk O10.out k hk).1; have h2 := hBl.out.1; omega)
    refine ⟨a5, false, _, (NM, tx), rfl, H11.out, HV8.out, (fun h => by cases h), K11.out, B11.out, L11, ?_, ?_⟩
    · exact O11
    · exact T10.out.setCell (p := ⟨bl, 0, none⟩) (Or.inr (Or.inr (Or.inl rfl))) _
  ·
    go_enter Tryz.func78, Tryz.ntmps78
    go_wp2_with fail
    refine (skip_any H.out hs).mono ?_
    rintro e1 w1 ⟨rfl, hc1, ht1⟩
    rw [← HA1.out] at hc1
    have H1 := Lib.hid hc1
    have T1 : Hid (Touch (PrP g bb bl v) w w1) := ht1.mono (fun _ _ h => Or.inl h)
    have K1 := Lib.hid (KC.out.touch ht1 NE.out.1)
    have B1 := Lib.hid (KB.out.touch ht1 NE.out.2.1)
    have L1 := Lib.hid (KL.out.touch ht1 NE.out.2.2.1)
    have O1 := Lib.hid (own_touch HO.out ht1 NG.out)
    clear hc1 ht1 c0 b0 l0 f0 f1
    have c0 := K1.out.cell 0
    have b0 := B1.out.cell 0
    have f0 := B1.out.froz 0
    simp at c0 b0
    go_wp2_with fail
    refine (byte_any H1.out hs 59).mono ?_
    rintro e2 w2 ⟨rfl, hc2, ht2⟩
    rw [HB1.out]
    have hc2 : CurAt w2 g s a2 := by
      have h := HA2.out
      rw [HB1.out] at hc2
      (try simp at hc2)
      (try simp at h)
      rw [h]
      exact hc2
    have H2 := Lib.hid hc2
    have T2 := Lib.hid (touch_up T1.out ht2 (fun _ _ h => Or.inl h))
    have K2 := Lib.hid (K1.out.touch ht2 NE.out.1)
    have B2 := Lib.hid (B1.out.touch ht2 NE.out.2.1)
    have L2 := Lib.hid (L1.out.touch ht2 NE.out.2.2.1)
    have O2 := Lib.hid (own_touch O1.out ht2 NG.out)
    clear hc2 ht2 c0 b0 f0
    have c0 := K2.out.cell 0
    have b0 := B2.out.cell 0
    have f0 := B2.out.froz 0
    have c1 := (K2.out.far (p := ⟨bb, 0, none⟩) NE.out.2.2.2.1 (.bool true)).cell 0
    simp at c0 b0 c1
    go_wp2_with fail
    refine (skip_any (H2.out.far NE.out.2.1 (.bool true)) hs).mono ?_
    rintro e3 w3 ⟨rfl, hc3, ht3⟩
    rw [← HA3.out] at hc3
    have H3 := Lib.hid hc3
    have T3 := Lib.hid (touch_up (T2.out.setCell (p := ⟨bb, 0, none⟩) (Or.inr (Or.inl rfl)) _) ht3 (fun _ _ h => Or.inl h))
    have K3 := Lib.hid ((K2.out.far (p := ⟨bb, 0, none⟩) NE.out.2.2.2.1 _).touch ht3 NE.out.1)
    have B3 := Lib.hid ((bool_set B2.out true).touch ht3 NE.out.2.1)
    have L3 := Lib.hid ((L2.out.far (p := ⟨bb, 0, none⟩) NE.out.2.2.2.2.1 _).touch ht3 NE.out.2.2.1)
    have O3 := Lib.hid (own_touch (own_touch O2.out (Touch.setCell (P := fun k => k = bb) (p := ⟨bb, 0, none⟩) (Touch.refl _ _) rfl (.bool true)) (fun k hk e => by have h1 := (HLT.out k hk).1; have h2 := hBl.out.2.1; omega)) ht3 NG.out)
    clear hc3 ht3 c0 b0 f0 c1
    have c0 := K3.out.cell 0
    simp at c0
    go_wp2_with fail
    refine (ctoken_any H3.out hs).mono ?_
    rintro e4 w4 ⟨rfl, hc4, ht4⟩
    rw [← HT.out] at hc4 ⊢
    rw [← HA4.out] at hc4 ⊢
    rw [← HX.out]
    have H4 := Lib.hid hc4
    have T4 := Lib.hid (touch_up T3.out ht4 (fun _ _ h => Or.inl h))
    have K4 := Lib.hid (K3.out.touch ht4 NE.out.1)
    have B4 := Lib.hid (B3.out.touch ht4 NE.out.2.1)
    have L4 := Lib.hid (L3.out.touch ht4 NE.out.2.2.1)
    have O4 := Lib.hid (own_touch O3.out ht4 NG.out)
    clear hc4 ht4 c0
    go_wp2_with fail
    refine (olower_any X HXS.out w4).mono ?_
    rintro e5 w5 ⟨rfl, hb5⟩
    rw [← HNM.out]
    have hb6 : Below w4.heap.size w4 (w5.alloc (.cells #[.string NM, .string ⟨#[]⟩] 120)) := hb5.alloc hb5.size _
    have HP : Hid (Blk (w5.alloc (.cells #[.string NM, .string ⟨#[]⟩] 120)) w5.heap.size #[.string NM, .string ⟨#[]⟩] 120) := Blk.new _ _ _
    have HGP : Hid (w.heap.size ≤ w5.heap.size) := Nat.le_trans T4.out.size hb5.size
    have H6 := Lib.hid (H4.out.call hb6)
    have T6 := Lib.hid (touch_up T4.out (Touch.of_below (P := fun _ => False) hb6) (fun _ _ h => h.elim))
    have K6 := Lib.hid (K4.out.call hb6)
    have B6 := Lib.hid (B4.out.call hb6)
    have L6 := Lib.hid (L4.out.call hb6)
    have O6 := Lib.hid (own_touch O4.out (Touch.of_below (P := fun _ => False) hb6) (fun _ _ => id))
    have NP : Hid (bc ≠ w5.heap.size ∧ bb ≠ w5.heap.size ∧ bl ≠ w5.heap.size ∧ g ≠ w5.heap.size) := by
      have h1 := hBl.out
      have h2 := HBZ.out
      have h3 := HGP.out
      refine ⟨?_, ?_, ?_, ?_⟩ <;> omega
    have b0 := B6.out.cell 0
    have f0 := B6.out.froz 0
    have p0 := HP.out.cell 0
    have c0 := (K6.out.far (p := ⟨bb, 0, none⟩) NE.out.2.2.2.1 (.bool true)).cell 0
    have K7 := Lib.hid (K6.out.far (p := ⟨bb, 0, none⟩) NE.out.2.2.2.1 (.bool true))
    have B7 := Lib.hid (bool_set B6.out true)
    have L7 := Lib.hid (L6.out.far (p := ⟨bb, 0, none⟩) NE.out.2.2.2.2.1 (.bool true))
    have P7 := Lib.hid (HP.out.far (p := ⟨bb, 0, none⟩) NP.out.2.1.symm (.bool true))
    have H7 := Lib.hid (H6.out.far NE.out.2.1 (.bool true))
    have T7 := Lib.hid (T6.out.setCell (p := ⟨bb, 0, none⟩) (Or.inr (Or.inl rfl)) (.bool true))
    have O7 := Lib.hid (own_touch O6.out (Touch.setCell (P := fun k => k = bb) (p := ⟨bb, 0, none⟩) (Touch.refl _ _) rfl (.bool true)) (fun k hk e => by have h1 := (HLT.out k hk).1; have h2 := hBl.out.2.1; omega))
    simp at b0 p0 c0
    clear hb5 hb6
    go_wp2_with fail
    refine (pvalue_any H7.out hs HV.out).mono ?_
    rintro e8 w8 ⟨tx, a5, rfl, hc8, hV8, ht8⟩
    rw [HVS.out]
    have H8 := Lib.hid hc8
    have HV8 := Lib.hid hV8
    have T8 := Lib.hid (touch_up T7.out ht8 (fun _ _ h => Or.inl h))
    have K8 := Lib.hid (K7.out.touch ht8 NE.out.1)
    have B8 := Lib.hid (B7.out.touch ht8 NE.out.2.1)
    have L8 := Lib.hid (L7.out.touch ht8 NE.out.2.2.1)
    have P8 := Lib.hid (P7.out.touch ht8 (fun e => NP.out.2.2.2 (show w5.heap.size = g from e).symm))
    have O8 := Lib.hid (own_touch O7.out ht8 NG.out)
    have HZ8 : Hid (w.heap.size ≤ w8.heap.size) := T8.out.size
    clear hc8 hV8 ht8 b0 f0 p0 c0
    have fp1 := P8.out.froz 1
    have cp1 := P8.out.cell 1
    have P9a : Hid (Blk (w8.setCell ⟨w5.heap.size, 1, none⟩ (.string tx)) w5.heap.size #[.string NM, .string tx] 120) := by
      have h := P8.out.set 1 (.string tx)
      show Blk _ _ _ _
      simpa using h
    have B9a := Lib.hid (B8.out.far (p := ⟨w5.heap.size, 1, none⟩) NP.out.2.1 (.string tx))
    have L9a := Lib.hid (L8.out.far (p := ⟨w5.heap.size, 1, none⟩) NP.out.2.2.1 (.string tx))
    have K9a := Lib.hid (K8.out.far (p := ⟨w5.heap.size, 1, none⟩) NP.out.1 (.string tx))
    have H9a : Hid (CurAt (w8.setCell ⟨w5.heap.size, 1, none⟩ (.string tx)) g s a5) := ⟨H8.out.k.far (p := ⟨w5.heap.size, 1, none⟩) NP.out.2.2.2 (.string tx), H8.out.le⟩
    have O9a := Lib.hid (own_touch O8.out (Touch.setCell (P := fun k => k = w5.heap.size) (p := ⟨w5.heap.size, 1, none⟩) (Touch.refl _ _) rfl (.string tx)) (fun k hk e => by have h1 := (HLT.out k hk).2; have h2 := HGP.out; omega))
    have T9a : Hid (Touch (PrP g bb bl v) w (w8.setCell ⟨w5.heap.size, 1, none⟩ (.string tx))) := touch_up T8.out (Touch.setCell (P := fun k => k = w5.heap.size) (p := ⟨w5.heap.size, 1, none⟩) (Touch.refl _ _) rfl (.string tx)) (fun i hi e => by have h2 := HGP.out; omega)
    have b9 := B9a.out.cell 0
    have f9 := B9a.out.froz 0
    simp at b9
    have P9 := Lib.hid (P9a.out.far (p := ⟨bb, 0, none⟩) NP.out.2.1.symm (.bool true))
    have B9 := Lib.hid (bool_set B9a.out true)
    have L9 := Lib.hid (L9a.out.far (p := ⟨bb, 0, none⟩) NE.out.2.2.2.2.1 (.bool true))
    have K9 := Lib.hid (K9a.out.far (p := ⟨bb, 0, none⟩) NE.out.2.2.2.1 (.bool true))
    have H9 := Lib.hid (H9a.out.far NE.out.2.1 (.bool true))
    have O9 : Hid (OwnP ((w8.setCell ⟨w5.heap.size, 1, none⟩ (.string tx)).setCell ⟨bb, 0, none⟩ (.bool true)) B v l) := (own_touch O9a.out (Touch.setCell (P := fun k => k = bb) (p := ⟨bb, 0, none⟩) (Touch.refl _ _) rfl (.bool true)) (fun k hk e => by have h1 := (HLT.out k hk).1; have h2 := hBl.out.2.1; omega))
    have T9 := Lib.hid (T9a.out.setCell (p := ⟨bb, 0, none⟩) (Or.inr (Or.inl rfl)) (.bool true))
    have l0 := L9.out.cell 0
    have q0 := P9.out.cell 0
    have q1 := P9.out.cell 1
    simp at cp1 l0 q0 q1
    have HZ9 : Hid (B ≤ ((w8.setCell ⟨w5.heap.size, 1, none⟩ (.string tx)).setCell ⟨bb, 0, none⟩ (.bool true)).heap.size) := Nat.le_trans HBZ.out T9.out.size
    go_wp2_with (at_builtin; refine wpList_push_par rfl _ _ rfl rfl O9.out NM tx _ (by simp) rfl HLL.out HZ9.out ?_; intro p10 c10 w10 ho10 ht10; have O10 := Lib.hid ho10; have L10 := Lib.hid (L9.out.touch ht10 (fun e => by have h1 := (HLT.out bl e).1; have h2 := hBl.out.1; omega)); have B10 := Lib.hid (B9.out.touch ht10 (fun e => by have h1 := (HLT.out bb e).1; have h2 := hBl.out.2.1; omega)); have K10 := Lib.hid (K9.out.touch ht10 (fun e => by have h1 := (HLT.out bc e).1; have h2 := hBl.out.2.2.2; omega)); have H10 : Hid (CurAt w10 g s a5) := ⟨H9.out.k.touch ht10 (fun e => by have h1 := (HLT.out g e).1; have h2 := hBl.out.2.2.1; omega), H9.out.le⟩; have T10 := Lib.hid (touch_up T9.out ht10 (fun _ _ h => Or.inr (Or.inr (Or.inr h)))); have k10 := L10.out.cell 0; have g10 := L10.out.froz 0; have B11 := Lib.hid (B10.out.far (p := ⟨bl, 0, none⟩) NE.out.2.2.2.2.1.symm (.slice p10 (l.length + 1) c10)); have K11 := Lib.hid (K10.out.far (p := ⟨bl, 0, none⟩) NE.out.2.2.2.2.2 (.slice p10 (l.length + 1) c10)); have H11 := Lib.hid (H10.out.far NE.out.2.2.1 (.slice p10 (l.length + 1) c10)); have u10 := B11.out.cell 0; have v10 := K11.out.cell 0; simp at k10 u10 v10; clear ho10 ht10)
    go_ret
    have L11 := l_set L10.out (.slice p10 (l.length + 1) c10)
    have O11 := own_touch O10.out (Touch.setCell (P := fun k => k = bl) (p := ⟨bl, 0, none⟩) (Touch.refl _ _) rfl (.slice p10 (l.length + 1) c10)) (fun k hk e => by have h1 := (ownP_blk O10.out k hk).1; have h2 := hBl.out.1; omega)
    refine ⟨a5, false, _, (NM, tx), rfl, H11.out, HV8.out, (fun h => by cases h), K11.out, B11.out, L11, ?_, ?_⟩
    · exact O11
    · exact T10.out.setCell (p := ⟨bl, 0, none⟩) (Or.inr (Or.inr (Or.inl rfl))) _
  ·
    go_enter Tryz.func78, Tryz.ntmps78
    go_wp2_with fail
    refine (skip_any H.out hs).mono ?_
    rintro e1 w1 ⟨rfl, hc1, ht1⟩
    rw [← HA1.out] at hc1
    have H1 := Lib.hid hc1
    have T1 : Hid (Touch (PrP g bb bl v) w w1) := ht1.mono (fun _ _ h => Or.inl h)
    have K1 := Lib.hid (KC.out.touch ht1 NE.out.1)
    have B1 := Lib.hid (KB.out.touch ht1 NE.out.2.1)
    have L1 := Lib.hid (KL.out.touch ht1 NE.out.2.2.1)
    have O1 := Lib.hid (own_touch HO.out ht1 NG.out)
    clear hc1 ht1 c0 b0 l0 f0 f1
    have c0 := K1.out.cell 0
    have b0 := B1.out.cell 0
    have f0 := B1.out.froz 0
    simp at c0 b0
    go_wp2_with fail
    refine (byte_any H1.out hs 59).mono ?_
    rintro e2 w2 ⟨rfl, hc2, ht2⟩
    rw [HB1.out]
    have hc2 : CurAt w2 g s a2 := by
      have h := HA2.out
      rw [HB1.out] at hc2
      (try simp at hc2)
      (try simp at h)
      rw [h]
      exact hc2
    have H2 := Lib.hid hc2
    have T2 := Lib.hid (touch_up T1.out ht2 (fun _ _ h => Or.inl h))
    have K2 := Lib.hid (K1.out.touch ht2 NE.out.1)
    have B2 := Lib.hid (B1.out.touch ht2 NE.out.2.1)
    have L2 := Lib.hid (L1.out.touch ht2 NE.out.2.2.1)
    have O2 := Lib.hid (own_touch O1.out ht2 NG.out)
    clear hc2 ht2 c0 b0 f0
    have c0 := K2.out.cell 0
    have b0 := B2.out.cell 0
    have f0 := B2.out.froz 0
    have c1 := (K2.out.far (p := ⟨bb, 0, none⟩) NE.out.2.2.2.1 (.bool true)).cell 0
    simp at c0 b0 c1
    go_wp2_with fail
    refine (skip_any (H2.out.far NE.out.2.1 (.bool true)) hs).mono ?_
    rintro e3 w3 ⟨rfl, hc3, ht3⟩
    rw [← HA3.out] at hc3
    have H3 := Lib.hid hc3
    have T3 := Lib.hid (touch_up (T2.out.setCell (p := ⟨bb, 0, none⟩) (Or.inr (Or.inl rfl)) _) ht3 (fun _ _ h => Or.inl h))
    have K3 := Lib.hid ((K2.out.far (p := ⟨bb, 0, none⟩) NE.out.2.2.2.1 _).touch ht3 NE.out.1)
    have B3 := Lib.hid ((bool_set B2.out true).touch ht3 NE.out.2.1)
    have L3 := Lib.hid ((L2.out.far (p := ⟨bb, 0, none⟩) NE.out.2.2.2.2.1 _).touch ht3 NE.out.2.2.1)
    have O3 := Lib.hid (own_touch (own_touch O2.out (Touch.setCell (P := fun k => k = bb) (p := ⟨bb, 0, none⟩) (Touch.refl _ _) rfl (.bool true)) (fun k hk e => by have h1 := (HLT.out k hk).1; have h2 := hBl.out.2.1; omega)) ht3 NG.out)
    clear hc3 ht3 c0 b0 f0 c1
    have c0 := K3.out.cell 0
    simp at c0
    go_wp2_with fail
    refine (ctoken_any H3.out hs).mono ?_
    rintro e4 w4 ⟨rfl, hc4, ht4⟩
    rw [← HT.out] at hc4 ⊢
    rw [← HA4.out] at hc4 ⊢
    rw [← HX.out]
    have H4 := Lib.hid hc4
    have T4 := Lib.hid (touch_up T3.out ht4 (fun _ _ h => Or.inl h))
    have K4 := Lib.hid (K3.out.touch ht4 NE.out.1)
    have B4 := Lib.hid (B3.out.touch ht4 NE.out.2.1)
    have L4 := Lib.hid (L3.out.touch ht4 NE.out.2.2.1)
    have O4 := Lib.hid (own_touch O3.out ht4 NG.out)
    clear hc4 ht4 c0
    go_wp2_with fail
    refine (olower_any X HXS.out w4).mono ?_
    rintro e5 w5 ⟨rfl, hb5⟩
    rw [← HNM.out]
    have hb6 : Below w4.heap.size w4 (w5.alloc (.cells #[.string NM, .string ⟨#[]⟩] 120)) := hb5.alloc hb5.size _
    have HP : Hid (Blk (w5.alloc (.cells #[.string NM, .string ⟨#[]⟩] 120)) w5.heap.size #[.string NM, .string ⟨#[]⟩] 120) := Blk.new _ _ _
    have HGP : Hid (w.heap.size ≤ w5.heap.size) := Nat.le_trans T4.out.size hb5.size
    have H6 := Lib.hid (H4.out.call hb6)
    have T6 := Lib.hid (touch_up T4.out (Touch.of_below (P := fun _ => False) hb6) (fun _ _ h => h.elim))
    have K6 := Lib.hid (K4.out.call hb6)
    have B6 := Lib.hid (B4.out.call hb6)
    have L6 := Lib.hid (L4.out.call hb6)
    have O6 := Lib.hid (own_touch O4.out (Touch.of_below (P := fun _ => False) hb6) (fun _ _ => id))
    have NP : Hid (bc ≠ w5.heap.size ∧ bb ≠ w5.heap.size ∧ bl ≠ w5.heap.size ∧ g ≠ w5.heap.size) := by
      have h1 := hBl.out
      have h2 := HBZ.out
      have h3 := HGP.out
      refine ⟨?_, ?_, ?_, ?_⟩ <;> omega
    have b0 := B6.out.cell 0
    have f0 := B6.out.froz 0
    have p0 := HP.out.cell 0
    have c0 := (K6.out.far (p := ⟨bb, 0, none⟩) NE.out.2.2.2.1 (.bool true)).cell 0
    have K7 := Lib.hid (K6.out.far (p := ⟨bb, 0, none⟩) NE.out.2.2.2.1 (.bool true))
    have B7 := Lib.hid (bool_set B6.out true)
    have L7 := Lib.hid (L6.out.far (p := ⟨bb, 0, none⟩) NE.out.2.2.2.2.1 (.bool true))
    have P7 := Lib.hid (HP.out.far (p := ⟨bb, 0, none⟩) NP.out.2.1.symm (.bool true))
    have H7 := Lib.hid (H6.out.far NE.out.2.1 (.bool true))
    have T7 := Lib.hid (T6.out.setCell (p := ⟨bb, 0, none⟩) (Or.inr (Or.inl rfl)) (.bool true))
    have O7 := Lib.hid (own_touch O6.out (Touch.setCell (P := fun k => k = bb) (p := ⟨bb, 0, none⟩) (Touch.refl _ _) rfl (.bool true)) (fun k hk e => by have h1 := (HLT.out k hk).1; have h2 := hBl.out.2.1; omega))
    simp at b0 p0 c0
    clear hb5 hb6
    go_wp2_with fail
    refine (pvalue_any H7.out hs HV.out).mono ?_
    rintro e8 w8 ⟨tx, a5, rfl, hc8, hV8, ht8⟩
    rw [HVS.out]
    have H8 := Lib.hid hc8
    have HV8 := Lib.hid hV8
    have T8 := Lib.hid (touch_up T7.out ht8 (fun _ _ h => Or.inl h))
    have K8 := Lib.hid (K7.out.touch ht8 NE.out.1)
    have B8 := Lib.hid (B7.out.touch ht8 NE.out.2.1)
    have L8 := Lib.hid (L7.out.touch ht8 NE.out.2.2.1)
    have P8 := Lib.hid (P7.out.touch ht8 (fun e => NP.out.2.2.2 (show w5.heap.size = g from e).symm))
    have O8 := Lib.hid (own_touch O7.out ht8 NG.out)
    have HZ8 : Hid (w.heap.size ≤ w8.heap.size) := T8.out.size
    clear hc8 hV8 ht8 b0 f0 p0 c0
    have fp1 := P8.out.froz 1
    have cp1 := P8.out.cell 1
    have P9a : Hid (Blk (w8.setCell ⟨w5.heap.size, 1, none⟩ (.string tx)) w5.heap.size #[.string NM, .string tx] 120) := by
      have h := P8.out.set 1 (.string tx)
      show Blk _ _ _ _
      simpa using h
    have B9a := Lib.hid (B8.out.far (p := ⟨w5.heap.size, 1, none⟩) NP.out.2.1 (.string tx))
    have L9a := Lib.hid (L8.out.far (p := ⟨w5.heap.size, 1, none⟩) NP.out.2.2.1 (.string tx))
    have K9a := Lib.hid (K8.out.far (p := ⟨w5.heap.size, 1, none⟩) NP.out.1 (.string tx))
    have H9a : Hid (CurAt (w8.setCell ⟨w5.heap.size, 1, none⟩ (.string tx)) g s a5) := ⟨H8.out.k.far (p := ⟨w5.heap.size, 1, none⟩) NP.out.2.2.2 (.string tx), H8.out.le⟩
    have O9a := Lib.hid (own_touch O8.out (Touch.setCell (P := fun k => k = w5.heap.size) (p := ⟨w5.heap.size, 1, none⟩) (Touch.refl _ _) rfl (.string tx)) (fun k hk e => by have h1 := (HLT.out k hk).2; have h2 := HGP.out; omega))
    have T9a : Hid (Touch (PrP g bb bl v) w (w8.setCell ⟨w5.heap.size, 1, none⟩ (.string tx))) := touch_up T8.out (Touch.setCell (P := fun k => k = w5.heap.size) (p := ⟨w5.heap.size, 1, none⟩) (Touch.refl _ _) rfl (.string tx)) (fun i hi e => by have h2 := HGP.out; omega)
    have P9 := P9a
    have B9 := B9a
    have L9 := L9a
    have K9 := K9a
    have H9 := H9a
    have T9 := T9a
    have O9 : Hid (OwnP (w8.setCell ⟨w5.heap.size, 1, none⟩ (.string tx)) B v l) := O9a
    have l0 := L9.out.cell 0
    have q0 := P9.out.cell 0
    have q1 := P9.out.cell 1
    simp at cp1 l0 q0 q1
    have HZ9 : Hid (B ≤ (w8.setCell ⟨w5.heap.size, 1, none⟩ (.string tx)).heap.size) := Nat.le_trans HBZ.out T9.out.size
    go_wp2_with (at_builtin; refine wpList_push_par rfl _ _ rfl rfl O9.out NM tx _ (by simp) rfl HLL.out HZ9.out ?_; intro p10 c10 w10 ho10 ht10; have O10 := Lib.hid ho10; have L10 := Lib.hid (L9.out.touch ht10 (fun e => by have h1 := (HLT.out bl e).1; have h2 := hBl.out.1; omega)); have B10 := Lib.hid (B9.out.touch ht10 (fun e => by have h1 := (HLT.out bb e).1; have h2 := hBl.out.2.1; omega)); have K10 := Lib.hid (K9.out.touch ht10 (fun e => by have h1 := (HLT.out bc e).1; have h2 := hBl.out.2.2.2; omega)); have H10 : Hid (CurAt w10 g s a5) := ⟨H9.out.k.touch ht10 (fun e => by have h1 := (HLT.out g e).1; have h2 := hBl.out.2.2.1; omega), H9.out.le⟩; have T10 := Lib.hid (touch_up T9.out ht10 (fun _ _ h => Or.inr (Or.inr (Or.inr h)))); have k10 := L10.out.cell 0; have g10 := L10.out.froz 0; have B11 := Lib.hid (B10.out.far (p := ⟨bl, 0, none⟩) NE.out.2.2.2.2.1.symm (.slice p10 (l.length + 1) c10)); have K11 := Lib.hid (K10.out.far (p := ⟨bl, 0, none⟩) NE.out.2.2.2.2.2 (.slice p10 (l.length + 1) c10)); have H11 := Lib.hid (H10.out.far NE.out.2.2.1 (.slice p10 (l.length + 1) c10)); have u10 := B11.out.cell 0; have v10 := K11.out.cell 0; simp at k10 u10 v10; clear ho10 ht10)
    go_ret
    have L11 := l_set L10.out (.slice p10 (l.length + 1) c10)
    have O11 := own_touch O10.out (Touch.setCell (P := fun k => k = bl) (p := ⟨bl, 0, none⟩) (Touch.refl _ _) rfl (.slice p10 (l.length + 1) c10)) (fun k hk e => by have h1 := (ownP_blk O10.out k hk).1; have h2 := hBl.out.1; omega)
    refine ⟨a5, false, _, (NM, tx), rfl, H11.out, HV8.out, (fun h => by cases h), K11.out, B11.out, L11, ?_, ?_⟩
    · exact O11
    · exact T10.out.setCell (p := ⟨bl, 0, none⟩) (Or.inr (Or.inr (Or.inl rfl))) _
  ·
    go_enter Tryz.func78, Tryz.ntmps78
    go_wp2_with fail
    refine (skip_any H.out hs).mono ?_
    rintro e1 w1 ⟨rfl, hc1, ht1⟩
    rw [← HA1.out] at hc1
    have H1 := Lib.hid hc1
    have T1 : Hid (Touch (PrP g bb bl v) w w1) := ht1.mono (fun _ _ h => Or.inl h)
    have K1 := Lib.hid (KC.out.touch ht1 NE.out.1)
    have B1 := Lib.hid (KB.out.touch ht1 NE.out.2.1)
    have L1 := Lib.hid (KL.out.touch ht1 NE.out.2.2.1)
    have O1 := Lib.hid (own_touch HO.out ht1 NG.out)
    clear hc1 ht1 c0 b0 l0 f0 f1
    have c0 := K1.out.cell 0
    have b0 := B1.out.cell 0
    have f0 := B1.out.froz 0
    simp at c0 b0
    go_wp2_with fail
    refine (byte_any H1.out hs 59).mono ?_
    rintro e2 w2 ⟨rfl, hc2, ht2⟩
    rw [HB1.out]
    have hc2 : CurAt w2 g s a2 := by
      have h := HA2.out
      rw [HB1.out] at hc2
      (try simp at hc2)
      (try simp at h)
      rw [h]
      exact hc2
    have H2 := Lib.hid hc2
    have T2 := Lib.hid (touch_up T1.out ht2 (fun _ _ h => Or.inl h))
    have K2 := Lib.hid (K1.out.touch ht2 NE.out.1)
    have B2 := Lib.hid (B1.out.touch ht2 NE.out.2.1)
    have L2 := Lib.hid (L1.out.touch ht2 NE.out.2.2.1)
    have O2 := Lib.hid (own_touch O1.out ht2 NG.out)
    clear hc2 ht2 c0 b0 f0
    have c0 := K2.out.cell 0
    have b0 := B2.out.cell 0
    have f0 := B2.out.froz 0
    have c1 := (K2.out.far (p := ⟨bb, 0, none⟩) NE.out.2.2.2.1 (.bool false)).cell 0
    simp at c0 b0 c1
    go_wp2_with fail
    refine (skip_any (H2.out.far NE.out.2.1 (.bool false)) hs).mono ?_
    rintro e3 w3 ⟨rfl, hc3, ht3⟩
    rw [← HA3.out] at hc3
    have H3 := Lib.hid hc3
    have T3 := Lib.hid (touch_up (T2.out.setCell (p := ⟨bb, 0, none⟩) (Or.inr (Or.inl rfl)) _) ht3 (fun _ _ h => Or.inl h))
    have K3 := Lib.hid ((K2.out.far (p := ⟨bb, 0, none⟩) NE.out.2.2.2.1 _).touch ht3 NE.out.1)
    have B3 := Lib.hid ((bool_set B2.out false).touch ht3 NE.out.2.1)
    have L3 := Lib.hid ((L2.out.far (p := ⟨bb, 0, none⟩) NE.out.2.2.2.2.1 _).touch ht3 NE.out.2.2.1)
    have O3 := Lib.hid (own_touch (own_touch O2.out (Touch.setCell (P := fun k => k = bb) (p := ⟨bb, 0, none⟩) (Touch.refl _ _) rfl (.bool false)) (fun k hk e => by have h1 := (HLT.out k hk).1; have h2 := hBl.out.2.1; omega)) ht3 NG.out)
    clear hc3 ht3 c0 b0 f0 c1
    have c0 := K3.out.cell 0
    simp at c0
    go_wp2_with fail
    refine (ctoken_any H3.out hs).mono ?_
    rintro e4 w4 ⟨rfl, hc4, ht4⟩
    rw [← HT.out] at hc4 ⊢
    rw [← HA4.out] at hc4 ⊢
    rw [← HX.out]
    have H4 := Lib.hid hc4
    have T4 := Lib.hid (touch_up T3.out ht4 (fun _ _ h => Or.inl h))
    have K4 := Lib.hid (K3.out.touch ht4 NE.out.1)
    have B4 := Lib.hid (B3.out.touch ht4 NE.out.2.1)
    have L4 := Lib.hid (L3.out.touch ht4 NE.out.2.2.1)
    have O4 := Lib.hid (own_touch O3.out ht4 NG.out)
    clear hc4 ht4 c0
    go_wp2_with fail
    refine (olower_any X HXS.out w4).mono ?_
    rintro e5 w5 ⟨rfl, hb5⟩
    rw [← HNM.out]
    have hb6 : Below w4.heap.size w4 (w5.alloc (.cells #[.string NM, .string ⟨#[]⟩] 120)) := hb5.alloc hb5.size _
    have HP : Hid (Blk (w5.alloc (.cells #[.string NM, .string ⟨#[]⟩] 120)) w5.heap.size #[.string NM, .string ⟨#[]⟩] 120) := Blk.new _ _ _
    have HGP : Hid (w.heap.size ≤ w5.heap.size) := Nat.le_trans T4.out.size hb5.size
    have H6 := Lib.hid (H4.out.call hb6)
    have T6 := Lib.hid (touch_up T4.out (Touch.of_below (P := fun _ => False) hb6) (fun _ _ h => h.elim))
    have K6 := Lib.hid (K4.out.call hb6)
    have B6 := Lib.hid (B4.out.call hb6)
    have L6 := Lib.hid (L4.out.call hb6)
    have O6 := Lib.hid (own_touch O4.out (Touch.of_below (P := fun _ => False) hb6) (fun _ _ => id))
    have NP : Hid (bc ≠ w5.heap.size ∧ bb ≠ w5.heap.size ∧ bl ≠ w5.heap.size ∧ g ≠ w5.heap.size) := by
      have h1 := hBl.out
      have h2 := HBZ.out
      have h3 := HGP.out
      refine ⟨?_, ?_, ?_, ?_⟩ <;> omega
    have b0 := B6.out.cell 0
    have f0 := B6.out.froz 0
    have p0 := HP.out.cell 0
    have c0 := (K6.out.far (p := ⟨bb, 0, none⟩) NE.out.2.2.2.1 (.bool false)).cell 0
    have K7 := Lib.hid (K6.out.far (p := ⟨bb, 0, none⟩) NE.out.2.2.2.1 (.bool false))
    have B7 := Lib.hid (bool_set B6.out false)
    have L7 := Lib.hid (L6.out.far (p := ⟨bb, 0, none⟩) NE.out.2.2.2.2.1 (.bool false))
    have P7 := Lib.hid (HP.out.far (p := ⟨bb, 0, none⟩) NP.out.2.1.symm (.bool false))
    have H7 := Lib.hid (H6.out.far NE.out.2.1 (.bool false))
    have T7 := Lib.hid (T6.out.setCell (p := ⟨bb, 0, none⟩) (Or.inr (Or.inl rfl)) (.bool false))
    have O7 := Lib.hid (own_touch O6.out (Touch.setCell (P := fun k => k = bb) (p := ⟨bb, 0, none⟩) (Touch.refl _ _) rfl (.bool false)) (fun k hk e => by have h1 := (HLT.out k hk).1; have h2 := hBl.out.2.1; omega))
    simp at b0 p0 c0
    clear hb5 hb6
    go_wp2_with fail
    refine (pvalue_any H7.out hs HV.out).mono ?_
    rintro e8 w8 ⟨tx, a5, rfl, hc8, hV8, ht8⟩
    rw [HVS.out]
    have H8 := Lib.hid hc8
    have HV8 := Lib.hid hV8
    have T8 := Lib.hid (touch_up T7.out ht8 (fun _ _ h => Or.inl h))
    have K8 := Lib.hid (K7.out.touch ht8 NE.out.1)
    have B8 := Lib.hid (B7.out.touch ht8 NE.out.2.1)
    have L8 := Lib.hid (L7.out.touch ht8 NE.out.2.2.1)
    have P8 := Lib.hid (P7.out.touch ht8 (fun e => NP.out.2.2.2 (show w5.heap.size = g from e).symm))
    have O8 := Lib.hid (own_touch O7.out ht8 NG.out)
    have HZ8 : Hid (w.heap.size ≤ w8.heap.size) := T8.out.size
    clear hc8 hV8 ht8 b0 f0 p0 c0
    have fp1 := P8.out.froz 1
    have cp1 := P8.out.cell 1
    have P9a : Hid (Blk (w8.setCell ⟨w5.heap.size, 1, none⟩ (.string tx)) w5.heap.size #[.string NM, .string tx] 120) := by
      have h := P8.out.set 1 (.string tx)
      show Blk _ _ _ _
      simpa using h
    have B9a := Lib.hid (B8.out.far (p := ⟨w5.heap.size, 1, none⟩) NP.out.2.1 (.string tx))
    have L9a := Lib.hid (L8.out.far (p := ⟨w5.heap.size, 1, none⟩) NP.out.2.2.1 (.string tx))
    have K9a := Lib.hid (K8.out.far (p := ⟨w5.heap.size, 1, none⟩) NP.out.1 (.string tx))
    have H9a : Hid (CurAt (w8.setCell ⟨w5.heap.size, 1, none⟩ (.string tx)) g s a5) := ⟨H8.out.k.far (p := ⟨w5.heap.size, 1, none⟩) NP.out.2.2.2 (.string tx), H8.out.le⟩
    have O9a := Lib.hid (own_touch O8.out (Touch.setCell (P := fun k => k = w5.heap.size) (p := ⟨w5.heap.size, 1, none⟩) (Touch.refl _ _) rfl (.string tx)) (fun k hk e => by have h1 := (HLT.out k hk).2; have h2 := HGP.out; omega))
    have T9a : Hid (Touch (PrP g bb bl v) w (w8.setCell ⟨w5.heap.size, 1, none⟩ (.string tx))) := touch_up T8.out (Touch.setCell (P := fun k => k = w5.heap.size) (p := ⟨w5.heap.size, 1, none⟩) (Touch.refl _ _) rfl (.string tx)) (fun i hi e => by have h2 := HGP.out; omega)
    have b9 := B9a.out.cell 0
    have f9 := B9a.out.froz 0
    simp at b9
    have P9 := Lib.hid (P9a.out.far (p := ⟨bb, 0, none⟩) NP.out.2.1.symm (.bool true))
    have B9 := Lib.hid (bool_set B9a.out true)
    have L9 := Lib.hid (L9a.out.far (p := ⟨bb, 0, none⟩) NE.out.2.2.2.2.1 (.bool true))
    have K9 := Lib.hid (K9a.out.far (p := ⟨bb, 0, none⟩) NE.out.2.2.2.1 (.bool true))
    have H9 := Lib.hid (H9a.out.far NE.out.2.1 (.bool true))
    have O9 : Hid (OwnP ((w8.setCell ⟨w5.heap.size, 1, none⟩ (.string tx)).setCell ⟨bb, 0, none⟩ (.bool true)) B v l) := (own_touch O9a.out (Touch.setCell (P := fun k => k = bb) (p := ⟨bb, 0, none⟩) (Touch.refl _ _) rfl (.bool true)) (fun k hk e => by have h1 := (HLT.out k hk).1; have h2 := hBl.out.2.1; omega))
    have T9 := Lib.hid (T9a.out.setCell (p := ⟨bb, 0, none⟩) (Or.inr (Or.inl rfl)) (.bool true))
    have l0 := L9.out.cell 0
    have q0 := P9.out.cell 0
    have q1 := P9.out.cell 1
    simp at cp1 l0 q0 q1
    have HZ9 : Hid (B ≤ ((w8.setCell ⟨w5.heap.size, 1, none⟩ (.string tx)).setCell ⟨bb, 0, none⟩ (.bool true)).heap.size) := Nat.le_trans HBZ.out T9.out.size
    go_wp2_with (at_builtin; refine wpList_push_par rfl _ _ rfl rfl O9.out NM tx _ (by simp) rfl HLL.out HZ9.out ?_; intro p10 c10 w10 ho10 ht10; have O10 := Lib.hid ho10; have L10 := Lib.hid (L9.out.touch ht10 (fun e => by have h1 := (HLT.out bl e).1; have h2 := hBl.out.1; omega)); have B10 := Lib.hid (B9.out.touch ht10 (fun e => by have h1 := (HLT.out bb e).1; have h2 := hBl.out.2.1; omega)); have K10 := Lib.hid (K9.out.touch ht10 (fun e => by have h1 := (HLT.out bc e).1; have h2 := hBl.out.2.2.2; omega)); have H10 : Hid (CurAt w10 g s a5) := ⟨H9.out.k.touch ht10 (fun e => by have h1 := (HLT.out g e).1; have h2 := hBl.out.2.2.1; omega), H9.out.le⟩; have T10 := Lib.hid (touch_up T9.out ht10 (fun _ _ h => Or.inr (Or.inr (Or.inr h)))); have k10 := L10.out.cell 0; have g10 := L10.out.froz 0; have B11 := Lib.hid (B10.out.far (p := ⟨bl, 0, none⟩) NE.out.2.2.2.2.1.symm (.slice p10 (l.length + 1) c10)); have K11 := Lib.hid (K10.out.far (p := ⟨bl, 0, none⟩) NE.out.2.2.2.2.2 (.slice p10 (l.length + 1) c10)); have H11 := Lib.hid (H10.out.far NE.out.2.2.1 (.slice p10 (l.length + 1) c10)); have u10 := B11.out.cell 0; have v10 := K11.out.cell 0; simp at k10 u10 v10; clear ho10 ht10)
    go_ret
    have L11 := l_set L10.out (.slice p10 (l.length + 1) c10)
    have O11 := own_touch O10.out (Touch.setCell (P := fun k => k = bl) (p := ⟨bl, 0, none⟩) (Touch.refl _ _) rfl (.slice p10 (l.length + 1) c10)) (fun k hk e => by have h1 := (ownP_blk O10.out k hk).1; have h2 := hBl.out.1; omega)
    refine ⟨a5, false, _, (NM, tx), rfl, H11.out, HV8.out, (fun _ _ h => by cases h), K11.out, B11.out, L11, ?_, ?_⟩
    · exact O11
    · exact T10.out.setCell (p := ⟨bl, 0, none⟩) (Or.inr (Or.inr (Or.inl rfl))) _
  ·
    go_enter Tryz.func78, Tryz.ntmps78
    go_wp2_with fail
    refine (skip_any H.out hs).mono ?_
    rintro e1 w1 ⟨rfl, hc1, ht1⟩
    rw [← HA1.out] at hc1
    have H1 := Lib.hid hc1
    have T1 : Hid (Touch (PrP g bb bl v) w w1) := ht1.mono (fun _ _ h => Or.inl h)
    have K1 := Lib.hid (KC.out.touch ht1 NE.out.1)
    have B1 := Lib.hid (KB.out.touch ht1 NE.out.2.1)
    have L1 := Lib.hid (KL.out.touch ht1 NE.out.2.2.1)
    have O1 := Lib.hid (own_touch HO.out ht1 NG.out)
    clear hc1 ht1 c0 b0 l0 f0 f1
    have c0 := K1.out.cell 0
    have b0 := B1.out.cell 0
    have f0 := B1.out.froz 0
    simp at c0 b0
    go_wp2_with fail
    refine (byte_any H1.out hs 59).mono ?_
    rintro e2 w2 ⟨rfl, hc2, ht2⟩
    rw [HB1.out]
    have hc2 : CurAt w2 g s a2 := by
      have h := HA2.out
      rw [HB1.out] at hc2
      (try simp at hc2)
      (try simp at h)
      rw [h]
      exact hc2
    have H2 := Lib.hid hc2
    have T2 := Lib.hid (touch_up T1.out ht2 (fun _ _ h => Or.inl h))
    have K2 := Lib.hid (K1.out.touch ht2 NE.out.1)
    have B2 := Lib.hid (B1.out.touch ht2 NE.out.2.1)
    have L2 := Lib.hid (L1.out.touch ht2 NE.out.2.2.1)
    have O2 := Lib.hid (own_touch O1.out ht2 NG.out)
    clear hc2 ht2 c0 b0 f0
    have c0 := K2.out.cell 0
    have b0 := B2.out.cell 0
    have f0 := B2.out.froz 0
    have c1 := (K2.out.far (p := ⟨bb, 0, none⟩) NE.out.2.2.2.1 (.bool false)).cell 0
    simp at c0 b0 c1
    go_wp2_with fail
    refine (skip_any (H2.out.far NE.out.2.1 (.bool false)) hs).mono ?_
    rintro e3 w3 ⟨rfl, hc3, ht3⟩
    rw [← HA3.out] at hc3
    have H3 := Lib.hid hc3
    have T3 := Lib.hid (touch_up (T2.out.setCell (p := ⟨bb, 0, none⟩) (Or.inr (Or.inl rfl)) _) ht3 (fun _ _ h => Or.inl h))
    have K3 := Lib.hid ((K2.out.far (p := ⟨bb, 0, none⟩) NE.out.2.2.2.1 _).touch ht3 NE.out.1)
    have B3 := Lib.hid ((bool_set B2.out false).touch ht3 NE.out.2.1)
    have L3 := Lib.hid ((L2.out.far (p := ⟨bb, 0, none⟩) NE.out.2.2.2.2.1 _).touch ht3 NE.out.2.2.1)
    have O3 := Lib.hid (own_touch (own_touch O2.out (Touch.setCell (P := fun k => k = bb) (p := ⟨bb, 0, none⟩) (Touch.refl _ _) rfl (.bool false)) (fun k hk e => by have h1 := (HLT.out k hk).1; have h2 := hBl.out.2.1; omega)) ht3 NG.out)
    clear hc3 ht3 c0 b0 f0 c1
    have c0 := K3.out.cell 0
    simp at c0
    go_wp2_with fail
    refine (ctoken_any H3.out hs).mono ?_
    rintro e4 w4 ⟨rfl, hc4, ht4⟩
    rw [← HT.out] at hc4 ⊢
    rw [← HA4.out] at hc4 ⊢
    rw [← HX.out]
    have H4 := Lib.hid hc4
    have T4 := Lib.hid (touch_up T3.out ht4 (fun _ _ h => Or.inl h))
    have K4 := Lib.hid (K3.out.touch ht4 NE.out.1)
    have B4 := Lib.hid (B3.out.touch ht4 NE.out.2.1)
    have L4 := Lib.hid (L3.out.touch ht4 NE.out.2.2.1)
    have O4 := Lib.hid (own_touch O3.out ht4 NG.out)
    clear hc4 ht4 c0
    go_wp2_with fail
    refine (olower_any X HXS.out w4).mono ?_
    rintro e5 w5 ⟨rfl, hb5⟩
    rw [← HNM.out]
    have hb6 : Below w4.heap.size w4 (w5.alloc (.cells #[.string NM, .string ⟨#[]⟩] 120)) := hb5.alloc hb5.size _
    have HP : Hid (Blk (w5.alloc (.cells #[.string NM, .string ⟨#[]⟩] 120)) w5.heap.size #[.string NM, .string ⟨#[]⟩] 120) := Blk.new _ _ _
    have HGP : Hid (w.heap.size ≤ w5.heap.size) := Nat.le_trans T4.out.size hb5.size
    have H6 := Lib.hid (H4.out.call hb6)
    have T6 := Lib.hid (touch_up T4.out (Touch.of_below (P := fun _ => False) hb6) (fun _ _ h => h.elim))
    have K6 := Lib.hid (K4.out.call hb6)
    have B6 := Lib.hid (B4.out.call hb6)
    have L6 := Lib.hid (L4.out.call hb6)
    have O6 := Lib.hid (own_touch O4.out (Touch.of_below (P := fun _ => False) hb6) (fun _ _ => id))
    have NP : Hid (bc ≠ w5.heap.size ∧ bb ≠ w5.heap.size ∧ bl ≠ w5.heap.size ∧ g ≠ w5.heap.size) := by
      have h1 := hBl.out
      have h2 := HBZ.out
      have h3 := HGP.out
      refine ⟨?_, ?_, ?_, ?_⟩ <;> omega
    have b0 := B6.out.cell 0
    have f0 := B6.out.froz 0
    have p0 := HP.out.cell 0
    have c0 := (K6.out.far (p := ⟨bb, 0, none⟩) NE.out.2.2.2.1 (.bool false)).cell 0
    have K7 := Lib.hid (K6.out.far (p := ⟨bb, 0, none⟩) NE.out.2.2.2.1 (.bool false))
    have B7 := Lib.hid (bool_set B6.out false)
    have L7 := Lib.hid (L6.out.far (p := ⟨bb, 0, none⟩) NE.out.2.2.2.2.1 (.bool false))
    have P7 := Lib.hid (HP.out.far (p := ⟨bb, 0, none⟩) NP.out.2.1.symm (.bool false))
    have H7 := Lib.hid (H6.out.far NE.out.2.1 (.bool false))
    have T7 := Lib.hid (T6.out.setCell (p := ⟨bb, 0, none⟩) (Or.inr (Or.inl rfl)) (.bool false))
    have O7 := Lib.hid (own_touch O6.out (Touch.setCell (P := fun k => k = bb) (p := ⟨bb, 0, none⟩) (Touch.refl _ _) rfl (.bool false)) (fun k hk e => by have h1 := (HLT.out k hk).1; have h2 := hBl.out.2.1; omega))
    simp at b0 p0 c0
    clear hb5 hb6
    go_wp2_with fail
    refine (pvalue_any H7.out hs HV.out).mono ?_
    rintro e8 w8 ⟨tx, a5, rfl, hc8, hV8, ht8⟩
    rw [HVS.out]
    have H8 := Lib.hid hc8
    have HV8 := Lib.hid hV8
    have T8 := Lib.hid (touch_up T7.out ht8 (fun _ _ h => Or.inl h))
    have K8 := Lib.hid (K7.out.touch ht8 NE.out.1)
    have B8 := Lib.hid (B7.out.touch ht8 NE.out.2.1)
    have L8 := Lib.hid (L7.out.touch ht8 NE.out.2.2.1)
    have P8 := Lib.hid (P7.out.touch ht8 (fun e => NP.out.2.2.2 (show w5.heap.size = g from e).symm))
    have O8 := Lib.hid (own_touch O7.out ht8 NG.out)
    have HZ8 : Hid (w.heap.size ≤ w8.heap.size) := T8.out.size
    clear hc8 hV8 ht8 b0 f0 p0 c0
    have fp1 := P8.out.froz 1
    have cp1 := P8.out.cell 1
    have P9a : Hid (Blk (w8.setCell ⟨w5.heap.size, 1, none⟩ (.string tx)) w5.heap.size #[.string NM, .string tx] 120) := by
      have h := P8.out.set 1 (.string tx)
      show Blk _ _ _ _
      simpa using h
    have B9a := Lib.hid (B8.out.far (p := ⟨w5.heap.size, 1, none⟩) NP.out.2.1 (.string tx))
    have L9a := Lib.hid (L8.out.far (p := ⟨w5.heap.size, 1, none⟩) NP.out.2.2.1 (.string tx))
    have K9a := Lib.hid (K8.out.far (p := ⟨w5.heap.size, 1, none⟩) NP.out.1 (.string tx))
    have H9a : Hid (CurAt (w8.setCell ⟨w5.heap.size, 1, none⟩ (.string tx)) g s a5) := ⟨H8.out.k.far (p := ⟨w5.heap.size, 1, none⟩) NP.out.2.2.2 (.string tx), H8.out.le⟩
    have O9a := Lib.hid (own_touch O8.out (Touch.setCell (P := fun k => k = w5.heap.size) (p := ⟨w5.heap.size, 1, none⟩) (Touch.refl _ _) rfl (.string tx)) (fun k hk e => by have h1 := (HLT.out k hk).2; have h2 := HGP.out; omega))
    have T9a : Hid (Touch (PrP g bb bl v) w (w8.setCell ⟨w5.heap.size, 1, none⟩ (.string tx))) := touch_up T8.out (Touch.setCell (P := fun k => k = w5.heap.size) (p := ⟨w5.heap.size, 1, none⟩) (Touch.refl _ _) rfl (.string tx)) (fun i hi e => by have h2 := HGP.out; omega)
    have P9 := P9a
    have B9 := B9a
    have L9 := L9a
    have K9 := K9a
    have H9 := H9a
    have T9 := T9a
    have O9 : Hid (OwnP (w8.setCell ⟨w5.heap.size, 1, none⟩ (.string tx)) B v l) := O9a
    have l0 := L9.out.cell 0
    have q0 := P9.out.cell 0
    have q1 := P9.out.cell 1
    simp at cp1 l0 q0 q1
    have HZ9 : Hid (B ≤ (w8.setCell ⟨w5.heap.size, 1, none⟩ (.string tx)).heap.size) := Nat.le_trans HBZ.out T9.out.size
    go_wp2_with (at_builtin; refine wpList_push_par rfl _ _ rfl rfl O9.out NM tx _ (by simp) rfl HLL.out HZ9.out ?_; intro p10 c10 w10 ho10 ht10; have O10 := Lib.hid ho10; have L10 := Lib.hid (L9.out.touch ht10 (fun e => by have h1 := (HLT.out bl e).1; have h2 := hBl.out.1; omega)); have B10 := Lib.hid (B9.out.touch ht10 (fun e => by have h1 := (HLT.out bb e).1; have h2 := hBl.out.2.1; omega)); have K10 := Lib.hid (K9.out.touch ht10 (fun e => by have h1 := (HLT.out bc e).1; have h2 := hBl.out.2.2.2; omega)); have H10 : Hid (CurAt w10 g s a5) := ⟨H9.out.k.touch ht10 (fun e => by have h1 := (HLT.out g e).1; have h2 := hBl.out.2.2.1; omega), H9.out.le⟩; have T10 := Lib.hid (touch_up T9.out ht10 (fun _ _ h => Or.inr (Or.inr (Or.inr h)))); have k10 := L10.out.cell 0; have g10 := L10.out.froz 0; have B11 := Lib.hid (B10.out.far (p := ⟨bl, 0, none⟩) NE.out.2.2.2.2.1.symm (.slice p10 (l.length + 1) c10)); have K11 := Lib.hid (K10.out.far (p := ⟨bl, 0, none⟩) NE.out.2.2.2.2.2 (.slice p10 (l.length + 1) c10)); have H11 := Lib.hid (H10.out.far NE.out.2.2.1 (.slice p10 (l.length + 1) c10)); have u10 := B11.out.cell 0; have v10 := K11.out.cell 0; simp at k10 u10 v10; clear ho10 ht10)
    refine (cdone_any H11.out hs).mono ?_
    rintro e12 w12 ⟨rfl, hb12⟩
    have HB12 := Lib.hid hb12
    clear hb12
    go_wp2_with fail
    go_ret
    have L11 := l_set L10.out (.slice p10 (l.length + 1) c10)
    have O11 := own_touch O10.out (Touch.setCell (P := fun k => k = bl) (p := ⟨bl, 0, none⟩) (Touch.refl _ _) rfl (.slice p10 (l.length + 1) c10)) (fun k hk e => by have h1 := (ownP_blk O10.out k hk).1; have h2 := hBl.out.1; omega)
    refine ⟨a5, _, _, (NM, tx), rfl, H11.out.call HB12.out, HV8.out, fun _ _ _ => rfl, K11.out.call HB12.out, B11.out.call HB12.out, L11.call HB12.out, ?_, ?_⟩
    · have h := own_touch O11 (Touch.of_below (P := fun _ => False) HB12.out) (fun _ _ => id)
      exact h
    · exact touch_up (T10.out.setCell (p := ⟨bl, 0, none⟩) (Or.inr (Or.inr (Or.inl rfl))) _) (Touch.of_below (P := fun _ => False) HB12.out) (fun _ _ h => h.elim)
  ·
    go_enter Tryz.func78, Tryz.ntmps78
    go_wp2_with fail
    refine (skip_any H.out hs).mono ?_
    rintro e1 w1 ⟨rfl, hc1, ht1⟩
    rw [← HA1.out] at hc1
    have H1 := Lib.hid hc1
    have T1 : Hid (Touch (PrP g bb bl v) w w1) := ht1.mono (fun _ _ h => Or.inl h)
    have K1 := Lib.hid (KC.out.touch ht1 NE.out.1)
    have B1 := Lib.hid (KB.out.touch ht1 NE.out.2.1)
    have L1 := Lib.hid (KL.out.touch ht1 NE.out.2.2.1)
    have O1 := Lib.hid (own_touch HO.out ht1 NG.out)
    clear hc1 ht1 c0 b0 l0 f0 f1
    have c0 := K1.out.cell 0
    have b0 := B1.out.cell 0
    have f0 := B1.out.froz 0
    simp at c0 b0
    go_wp2_with fail
    refine (byte_any H1.out hs 59).mono ?_
    rintro e2 w2 ⟨rfl, hc2, ht2⟩
    rw [HB1.out]
    have hc2 : CurAt w2 g s a2 := by
      have h := HA2.out
      rw [HB1.out] at hc2
      (try simp at hc2)
      (try simp at h)
      rw [h]
      exact hc2
    have H2 := Lib.hid hc2
    have T2 := Lib.hid (touch_up T1.out ht2 (fun _ _ h => Or.inl h))
    have K2 := Lib.hid (K1.out.touch ht2 NE.out.1)
    have B2 := Lib.hid (B1.out.touch ht2 NE.out.2.1)
    have L2 := Lib.hid (L1.out.touch ht2 NE.out.2.2.1)
    have O2 := Lib.hid (own_touch O1.out ht2 NG.out)
    clear hc2 ht2 c0 b0 f0
    have c0 := K2.out.cell 0
    have b0 := B2.out.cell 0
    have f0 := B2.out.froz 0
    have c1 := (K2.out.far (p := ⟨bb, 0, none⟩) NE.out.2.2.2.1 (.bool false)).cell 0
    simp at c0 b0 c1
    go_wp2_with fail
    refine (skip_any (H2.out.far NE.out.2.1 (.bool false)) hs).mono ?_
    rintro e3 w3 ⟨rfl, hc3, ht3⟩
    rw [← HA3.out] at hc3
    have H3 := Lib.hid hc3
    have T3 := Lib.hid (touch_up (T2.out.setCell (p := ⟨bb, 0, none⟩) (Or.inr (Or.inl rfl)) _) ht3 (fun _ _ h => Or.inl h))
    have K3 := Lib.hid ((K2.out.far (p := ⟨bb, 0, none⟩) NE.out.2.2.2.1 _).touch ht3 NE.out.1)
    have B3 := Lib.hid ((bool_set B2.out false).touch ht3 NE.out.2.1)
    have L3 := Lib.hid ((L2.out.far (p := ⟨bb, 0, none⟩) NE.out.2.2.2.2.1 _).touch ht3 NE.out.2.2.1)
    have O3 := Lib.hid (own_touch (own_touch O2.out (Touch.setCell (P := fun k => k = bb) (p := ⟨bb, 0, none⟩) (Touch.refl _ _) rfl (.bool false)) (fun k hk e => by have h1 := (HLT.out k hk).1; have h2 := hBl.out.2.1; omega)) ht3 NG.out)
    clear hc3 ht3 c0 b0 f0 c1
    have c0 := K3.out.cell 0
    simp at c0
    go_wp2_with fail
    refine (ctoken_any H3.out hs).mono ?_
    rintro e4 w4 ⟨rfl, hc4, ht4⟩
    rw [← HT.out] at hc4 ⊢
    rw [← HA4.out] at hc4 ⊢
    rw [← HX.out]
    have H4 := Lib.hid hc4
    have T4 := Lib.hid (touch_up T3.out ht4 (fun _ _ h => Or.inl h))
    have K4 := Lib.hid (K3.out.touch ht4 NE.out.1)
    have B4 := Lib.hid (B3.out.touch ht4 NE.out.2.1)
    have L4 := Lib.hid (L3.out.touch ht4 NE.out.2.2.1)
    have O4 := Lib.hid (own_touch O3.out ht4 NG.out)
    clear hc4 ht4 c0
    go_wp2_with fail
    refine (olower_any X HXS.out w4).mono ?_
    rintro e5 w5 ⟨rfl, hb5⟩
    rw [← HNM.out]
    have hb6 : Below w4.heap.size w4 (w5.alloc (.cells #[.string NM, .string ⟨#[]⟩] 120)) := hb5.alloc hb5.size _
    have HP : Hid (Blk (w5.alloc (.cells #[.string NM, .string ⟨#[]⟩] 120)) w5.heap.size #[.string NM, .string ⟨#[]⟩] 120) := Blk.new _ _ _
    have HGP : Hid (w.heap.size ≤ w5.heap.size) := Nat.le_trans T4.out.size hb5.size
    have H6 := Lib.hid (H4.out.call hb6)
    have T6 := Lib.hid (touch_up T4.out (Touch.of_below (P := fun _ => False) hb6) (fun _ _ h => h.elim))
    have K6 := Lib.hid (K4.out.call hb6)
    have B6 := Lib.hid (B4.out.call hb6)
    have L6 := Lib.hid (L4.out.call hb6)
    have O6 := Lib.hid (own_touch O4.out (Touch.of_below (P := fun _ => False) hb6) (fun _ _ => id))
    have NP : Hid (bc ≠ w5.heap.size ∧ bb ≠ w5.heap.size ∧ bl ≠ w5.heap.size ∧ g ≠ w5.heap.size) := by
      have h1 := hBl.out
      have h2 := HBZ.out
      have h3 := HGP.out
      refine ⟨?_, ?_, ?_, ?_⟩ <;> omega
    have b0 := B6.out.cell 0
    have f0 := B6.out.froz 0
    have p0 := HP.out.cell 0
    have c0 := (K6.out.far (p := ⟨bb, 0, none⟩) NE.out.2.2.2.1 (.bool true)).cell 0
    have K7 := Lib.hid (K6.out.far (p := ⟨bb, 0, none⟩) NE.out.2.2.2.1 (.bool true))
    have B7 := Lib.hid (bool_set B6.out true)
    have L7 := Lib.hid (L6.out.far (p := ⟨bb, 0, none⟩) NE.out.2.2.2.2.1 (.bool true))
    have P7 := Lib.hid (HP.out.far (p := ⟨bb, 0, none⟩) NP.out.2.1.symm (.bool true))
    have H7 := Lib.hid (H6.out.far NE.out.2.1 (.bool true))
    have T7 := Lib.hid (T6.out.setCell (p := ⟨bb, 0, none⟩) (Or.inr (Or.inl rfl)) (.bool true))
    have O7 := Lib.hid (own_touch O6.out (Touch.setCell (P := fun k => k = bb) (p := ⟨bb, 0, none⟩) (Touch.refl _ _) rfl (.bool true)) (fun k hk e => by have h1 := (HLT.out k hk).1; have h2 := hBl.out.2.1; omega))
    simp at b0 p0 c0
    clear hb5 hb6
    go_wp2_with fail
    refine (pvalue_any H7.out hs HV.out).mono ?_
    rintro e8 w8 ⟨tx, a5, rfl, hc8, hV8, ht8⟩
    rw [HVS.out]
    have H8 := Lib.hid hc8
    have HV8 := Lib.hid hV8
    have T8 := Lib.hid (touch_up T7.out ht8 (fun _ _ h => Or.inl h))
    have K8 := Lib.hid (K7.out.touch ht8 NE.out.1)
    have B8 := Lib.hid (B7.out.touch ht8 NE.out.2.1)
    have L8 := Lib.hid (L7.out.touch ht8 NE.out.2.2.1)
    have P8 := Lib.hid (P7.out.touch ht8 (fun e => NP.out.2.2.2 (show w5.heap.size = g from e).symm))
    have O8 := Lib.hid (own_touch O7.out ht8 NG.out)
    have HZ8 : Hid (w.heap.size ≤ w8.heap.size) := T8.out.size
    clear hc8 hV8 ht8 b0 f0 p0 c0
    have fp1 := P8.out.froz 1
    have cp1 := P8.out.cell 1
    have P9a : Hid (Blk (w8.setCell ⟨w5.heap.size, 1, none⟩ (.string tx)) w5.heap.size #[.string NM, .string tx] 120) := by
      have h := P8.out.set 1 (.string tx)
      show Blk _ _ _ _
      simpa using h
    have B9a := Lib.hid (B8.out.far (p := ⟨w5.heap.size, 1, none⟩) NP.out.2.1 (.string tx))
    have L9a := Lib.hid (L8.out.far (p := ⟨w5.heap.size, 1, none⟩) NP.out.2.2.1 (.string tx))
    have K9a := Lib.hid (K8.out.far (p := ⟨w5.heap.size, 1, none⟩) NP.out.1 (.string tx))
    have H9a : Hid (CurAt (w8.setCell ⟨w5.heap.size, 1, none⟩ (.string tx)) g s a5) := ⟨H8.out.k.far (p := ⟨w5.heap.size, 1, none⟩) NP.out.2.2.2 (.string tx), H8.out.le⟩
    have O9a := Lib.hid (own_touch O8.out (Touch.setCell (P := fun k => k = w5.heap.size) (p := ⟨w5.heap.size, 1, none⟩) (Touch.refl _ _) rfl (.string tx)) (fun k hk e => by have h1 := (HLT.out k hk).2; have h2 := HGP.out; omega))
    have T9a : Hid (Touch (PrP g bb bl v) w (w8.setCell ⟨w5.heap.size, 1, none⟩ (.string tx))) := touch_up T8.out (Touch.setCell (P := fun k => k = w5.heap.size) (p := ⟨w5.heap.size, 1, none⟩) (Touch.refl _ _) rfl (.string tx)) (fun i hi e => by have h2 := HGP.out; omega)
    have b9 := B9a.out.cell 0
    have f9 := B9a.out.froz 0
    simp at b9
    have P9 := Lib.hid (P9a.out.far (p := ⟨bb, 0, none⟩) NP.out.2.1.symm (.bool true))
    have B9 := Lib.hid (bool_set B9a.out true)
    have L9 := Lib.hid (L9a.out.far (p := ⟨bb, 0, none⟩) NE.out.2.2.2.2.1 (.bool true))
    have K9 := Lib.hid (K9a.out.far (p := ⟨bb, 0, none⟩) NE.out.2.2.2.1 (.bool true))
    have H9 := Lib.hid (H9a.out.far NE.out.2.1 (.bool true))
    have O9 : Hid (OwnP ((w8.setCell ⟨w5.heap.size, 1, none⟩ (.string tx)).setCell ⟨bb, 0, none⟩ (.bool true)) B v l) := (own_touch O9a.out (Touch.setCell (P := fun k => k = bb) (p := ⟨bb, 0, none⟩) (Touch.refl _ _) rfl (.bool true)) (fun k hk e => by have h1 := (HLT.out k hk).1; have h2 := hBl.out.2.1; omega))
    have T9 := Lib.hid (T9a.out.setCell (p := ⟨bb, 0, none⟩) (Or.inr (Or.inl rfl)) (.bool true))
    have l0 := L9.out.cell 0
    have q0 := P9.out.cell 0
    have q1 := P9.out.cell 1
    simp at cp1 l0 q0 q1
    have HZ9 : Hid (B ≤ ((w8.setCell ⟨w5.heap.size, 1, none⟩ (.string tx)).setCell ⟨bb, 0, none⟩ (.bool true)).heap.size) := Nat.le_trans HBZ.out T9.out.size
    go_wp2_with (at_builtin; refine wpList_push_par rfl _ _ rfl rfl O9.out NM tx _ (by simp) rfl HLL.out HZ9.out ?_; intro p10 c10 w10 ho10 ht10; have O10 := Lib.hid ho10; have L10 := Lib.hid (L9.out.touch ht10 (fun e => by have h1 := (HLT.out bl e).1; have h2 := hBl.out.1; omega)); have B10 := Lib.hid (B9.out.touch ht10 (fun e => by have h1 := (HLT.out bb e).1; have h2 := hBl.out.2.1; omega)); have K10 := Lib.hid (K9.out.touch ht10 (fun e => by have h1 := (HLT.out bc e).1; have h2 := hBl.out.2.2.2; omega)); have H10 : Hid (CurAt w10 g s a5) := ⟨H9.out.k.touch ht10 (fun e => by have h1 := (HLT.out g e).1; have h2 := hBl.out.2.2.1; omega), H9.out.le⟩; have T10 := Lib.hid (touch_up T9.out ht10 (fun _ _ h => Or.inr (Or.inr (Or.inr h)))); have k10 := L10.out.cell 0; have g10 := L10.out.froz 0; have B11 := Lib.hid (B10.out.far (p := ⟨bl, 0, none⟩) NE.out.2.2.2.2.1.symm (.slice p10 (l.length + 1) c10)); have K11 := Lib.hid (K10.out.far (p := ⟨bl, 0, none⟩) NE.out.2.2.2.2.2 (.slice p10 (l.length + 1) c10)); have H11 := Lib.hid (H10.out.far NE.out.2.2.1 (.slice p10 (l.length + 1) c10)); have u10 := B11.out.cell 0; have v10 := K11.out.cell 0; simp at k10 u10 v10; clear ho10 ht10)
    go_ret
    have L11 := l_set L10.out (.slice p10 (l.length + 1) c10)
    have O11 := own_touch O10.out (Touch.setCell (P := fun k => k = bl) (p := ⟨bl, 0, none⟩) (Touch.refl _ _) rfl (.slice p10 (l.length + 1) c10)) (fun k hk e => by have h1 := (ownP_blk O10.out k hk).1; have h2 := hBl.out.1; omega)
    refine ⟨a5, false, _, (NM, tx), rfl, H11.out, HV8.out, (fun _ h => by cases h), K11.out, B11.out, L11, ?_, ?_⟩
    · exact O11
    · exact T10.out.setCell (p := ⟨bl, 0, none⟩) (Or.inr (Or.inr (Or.inl rfl))) _
  ·
    go_enter Tryz.func78, Tryz.ntmps78
    go_wp2_with fail
    refine (skip_any H.out hs).mono ?_
    rintro e1 w1 ⟨rfl, hc1, ht1⟩
    rw [← HA1.out] at hc1
    have H1 := Lib.hid hc1
    have T1 : Hid (Touch (PrP g bb bl v) w w1) := ht1.mono (fun _ _ h => Or.inl h)
    have K1 := Lib.hid (KC.out.touch ht1 NE.out.1)
    have B1 := Lib.hid (KB.out.touch ht1 NE.out.2.1)
    have L1 := Lib.hid (KL.out.touch ht1 NE.out.2.2.1)
    have O1 := Lib.hid (own_touch HO.out ht1 NG.out)
    clear hc1 ht1 c0 b0 l0 f0 f1
    have c0 := K1.out.cell 0
    have b0 := B1.out.cell 0
    have f0 := B1.out.froz 0
    simp at c0 b0
    go_wp2_with fail
    refine (byte_any H1.out hs 59).mono ?_
    rintro e2 w2 ⟨rfl, hc2, ht2⟩
    rw [HB1.out]
    have hc2 : CurAt w2 g s a2 := by
      have h := HA2.out
      rw [HB1.out] at hc2
      (try simp at hc2)
      (try simp at h)
      rw [h]
      exact hc2
    have H2 := Lib.hid hc2
    have T2 := Lib.hid (touch_up T1.out ht2 (fun _ _ h => Or.inl h))
    have K2 := Lib.hid (K1.out.touch ht2 NE.out.1)
    have B2 := Lib.hid (B1.out.touch ht2 NE.out.2.1)
    have L2 := Lib.hid (L1.out.touch ht2 NE.out.2.2.1)
    have O2 := Lib.hid (own_touch O1.out ht2 NG.out)
    clear hc2 ht2 c0 b0 f0
    have c0 := K2.out.cell 0
    have b0 := B2.out.cell 0
    have f0 := B2.out.froz 0
    have c1 := (K2.out.far (p := ⟨bb, 0, none⟩) NE.out.2.2.2.1 (.bool false)).cell 0
    simp at c0 b0 c1
    go_wp2_with fail
    refine (skip_any (H2.out.far NE.out.2.1 (.bool false)) hs).mono ?_
    rintro e3 w3 ⟨rfl, hc3, ht3⟩
    rw [← HA3.out] at hc3
    have H3 := Lib.hid hc3
    have T3 := Lib.hid (touch_up (T2.out.setCell (p := ⟨bb, 0, none⟩) (Or.inr (Or.inl rfl)) _) ht3 (fun _ _ h => Or.inl h))
    have K3 := Lib.hid ((K2.out.far (p := ⟨bb, 0, none⟩) NE.out.2.2.2.1 _).touch ht3 NE.out.1)
    have B3 := Lib.hid ((bool_set B2.out false).touch ht3 NE.out.2.1)
    have L3 := Lib.hid ((L2.out.far (p := ⟨bb, 0, none⟩) NE.out.2.2.2.2.1 _).touch ht3 NE.out.2.2.1)
    have O3 := Lib.hid (own_touch (own_touch O2.out (Touch.setCell (P := fun k => k = bb) (p := ⟨bb, 0, none⟩) (Touch.refl _ _) rfl (.bool false)) (fun k hk e => by have h1 := (HLT.out k hk).1; have h2 := hBl.out.2.1; omega)) ht3 NG.out)
    clear hc3 ht3 c0 b0 f0 c1
    have c0 := K3.out.cell 0
    simp at c0
    go_wp2_with fail
    refine (ctoken_any H3.out hs).mono ?_
    rintro e4 w4 ⟨rfl, hc4, ht4⟩
    rw [← HT.out] at hc4 ⊢
    rw [← HA4.out] at hc4 ⊢
    rw [← HX.out]
    have H4 := Lib.hid hc4
    have T4 := Lib.hid (touch_up T3.out ht4 (fun _ _ h => Or.inl h))
    have K4 := Lib.hid (K3.out.touch ht4 NE.out.1)
    have B4 := Lib.hid (B3.out.touch ht4 NE.out.2.1)
    have L4 := Lib.hid (L3.out.touch ht4 NE.out.2.2.1)
    have O4 := Lib.hid (own_touch O3.out ht4 NG.out)
    clear hc4 ht4 c0
    go_wp2_with fail
    refine (olower_any X HXS.out w4).mono ?_
    rintro e5 w5 ⟨rfl, hb5⟩
    rw [← HNM.out]
    have hb6 : Below w4.heap.size w4 (w5.alloc (.cells #[.string NM, .string ⟨#[]⟩] 120)) := hb5.alloc hb5.size _
    have HP : Hid (Blk (w5.alloc (.cells #[.string NM, .string ⟨#[]⟩] 120)) w5.heap.size #[.string NM, .string ⟨#[]⟩] 120) := Blk.new _ _ _
    have HGP : Hid (w.heap.size ≤ w5.heap.size) := Nat.le_trans T4.out.size hb5.size
    have H6 := Lib.hid (H4.out.call hb6)
    have T6 := Lib.hid (touch_up T4.out (Touch.of_below (P := fun _ => False) hb6) (fun _ _ h => h.elim))
    have K6 := Lib.hid (K4.out.call hb6)
    have B6 := Lib.hid (B4.out.call hb6)
    have L6 := Lib.hid (L4.out.call hb6)
    have O6 := Lib.hid (own_touch O4.out (Touch.of_below (P := fun _ => False) hb6) (fun _ _ => id))
    have NP : Hid (bc ≠ w5.heap.size ∧ bb ≠ w5.heap.size ∧ bl ≠ w5.heap.size ∧ g ≠ w5.heap.size) := by
      have h1 := hBl.out
      have h2 := HBZ.out
      have h3 := HGP.out
      refine ⟨?_, ?_, ?_, ?_⟩ <;> omega
    have b0 := B6.out.cell 0
    have f0 := B6.out.froz 0
    have p0 := HP.out.cell 0
    have c0 := (K6.out.far (p := ⟨bb, 0, none⟩) NE.out.2.2.2.1 (.bool true)).cell 0
    have K7 := Lib.hid (K6.out.far (p := ⟨bb, 0, none⟩) NE.out.2.2.2.1 (.bool true))
    have B7 := Lib.hid (bool_set B6.out true)
    have L7 := Lib.hid (L6.out.far (p := ⟨bb, 0, none⟩) NE.out.2.2.2.2.1 (.bool true))
    have P7 := Lib.hid (HP.out.far (p := ⟨bb, 0, none⟩) NP.out.2.1.symm (.bool true))
    have H7 := Lib.hid (H6.out.far NE.out.2.1 (.bool true))
    have T7 := Lib.hid (T6.out.setCell (p := ⟨bb, 0, none⟩) (Or.inr (Or.inl rfl)) (.bool true))
    have O7 := Lib.hid (own_touch O6.out (Touch.setCell (P := fun k => k = bb) (p := ⟨bb, 0, none⟩) (Touch.refl _ _) rfl (.bool true)) (fun k hk e => by have h1 := (HLT.out k hk).1; have h2 := hBl.out.2.1; omega))
    simp at b0 p0 c0
    clear hb5 hb6
    go_wp2_with fail
    refine (pvalue_any H7.out hs HV.out).mono ?_
    rintro e8 w8 ⟨tx, a5, rfl, hc8, hV8, ht8⟩
    rw [HVS.out]
    have H8 := Lib.hid hc8
    have HV8 := Lib.hid hV8
    have T8 := Lib.hid (touch_up T7.out ht8 (fun _ _ h => Or.inl h))
    have K8 := Lib.hid (K7.out.touch ht8 NE.out.1)
    have B8 := Lib.hid (B7.out.touch ht8 NE.out.2.1)
    have L8 := Lib.hid (L7.out.touch ht8 NE.out.2.2.1)
    have P8 := Lib.hid (P7.out.touch ht8 (fun e => NP.out.2.2.2 (show w5.heap.size = g from e).symm))
    have O8 := Lib.hid (own_touch O7.out ht8 NG.out)
    have HZ8 : Hid (w.heap.size ≤ w8.heap.size) := T8.out.size
    clear hc8 hV8 ht8 b0 f0 p0 c0
    have fp1 := P8.out.froz 1
    have cp1 := P8.out.cell 1
    have P9a : Hid (Blk (w8.setCell ⟨w5.heap.size, 1, none⟩ (.string tx)) w5.heap.size #[.string NM, .string tx] 120) := by
      have h := P8.out.set 1 (.string tx)
      show Blk _ _ _ _
      simpa using h
    have B9a := Lib.hid (B8.out.far (p := ⟨w5.heap.size, 1, none⟩) NP.out.2.1 (.string tx))
    have L9a := Lib.hid (L8.out.far (p := ⟨w5.heap.size, 1, none⟩) NP.out.2.2.1 (.string tx))
    have K9a := Lib.hid (K8.out.far (p := ⟨w5.heap.size, 1, none⟩) NP.out.1 (.string tx))
    have H9a : Hid (CurAt (w8.setCell ⟨w5.heap.size, 1, none⟩ (.string tx)) g s a5) := ⟨H8.out.k.far (p := ⟨w5.heap.size, 1, none⟩) NP.out.2.2.2 (.string tx), H8.out.le⟩
    have O9a := Lib.hid (own_touch O8.out (Touch.setCell (P := fun k => k = w5.heap.size) (p := ⟨w5.heap.size, 1, none⟩) (Touch.refl _ _) rfl (.string tx)) (fun k hk e => by have h1 := (HLT.out k hk).2; have h2 := HGP.out; omega))
    have T9a : Hid (Touch (PrP g bb bl v) w (w8.setCell ⟨w5.heap.size, 1, none⟩ (.string tx))) := touch_up T8.out (Touch.setCell (P := fun k => k = w5.heap.size) (p := ⟨w5.heap.size, 1, none⟩) (Touch.refl _ _) rfl (.string tx)) (fun i hi e => by have h2 := HGP.out; omega)
    have P9 := P9a
    have B9 := B9a
    have L9 := L9a
    have K9 := K9a
    have H9 := H9a
    have T9 := T9a
    have O9 : Hid (OwnP (w8.setCell ⟨w5.heap.size, 1, none⟩ (.string tx)) B v l) := O9a
    have l0 := L9.out.cell 0
    have q0 := P9.out.cell 0
    have q1 := P9.out.cell 1
    simp at cp1 l0 q0 q1
    have HZ9 : Hid (B ≤ (w8.setCell ⟨w5.heap.size, 1, none⟩ (.string tx)).heap.size) := Nat.le_trans HBZ.out T9.out.size
    go_wp2_with (at_builtin; refine wpList_push_par rfl _ _ rfl rfl O9.out NM tx _ (by simp) rfl HLL.out HZ9.out ?_; intro p10 c10 w10 ho10 ht10; have O10 := Lib.hid ho10; have L10 := Lib.hid (L9.out.touch ht10 (fun e => by have h1 := (HLT.out bl e).1; have h2 := hBl.out.1; omega)); have B10 := Lib.hid (B9.out.touch ht10 (fun e => by have h1 := (HLT.out bb e).1; have h2 := hBl.out.2.1; omega)); have K10 := Lib.hid (K9.out.touch ht10 (fun e => by have h1 := (HLT.out bc e).1; have h2 := hBl.out.2.2.2; omega)); have H10 : Hid (CurAt w10 g s a5) := ⟨H9.out.k.touch ht10 (fun e => by have h1 := (HLT.out g e).1; have h2 := hBl.out.2.2.1; omega), H9.out.le⟩; have T10 := Lib.hid (touch_up T9.out ht10 (fun _ _ h => Or.inr (Or.inr (Or.inr h)))); have k10 := L10.out.cell 0; have g10 := L10.out.froz 0; have B11 := Lib.hid (B10.out.far (p := ⟨bl, 0, none⟩) NE.out.2.2.2.2.1.symm (.slice p10 (l.length + 1) c10)); have K11 := Lib.hid (K10.out.far (p := ⟨bl, 0, none⟩) NE.out.2.2.2.2.2 (.slice p10 (l.length + 1) c10)); have H11 := Lib.hid (H10.out.far NE.out.2.2.1 (.slice p10 (l.length + 1) c10)); have u10 := B11.out.cell 0; have v10 := K11.out.cell 0; simp at k10 u10 v10; clear ho10 ht10)
    go_ret
    have L11 := l_set L10.out (.slice p10 (l.length + 1) c10)
    have O11 := own_touch O10.out (Touch.setCell (P := fun k => k = bl) (p := ⟨bl, 0, none⟩) (Touch.refl _ _) rfl (.slice p10 (l.length + 1) c10)) (fun k hk e => by have h1 := (ownP_blk O10.out k hk).1; have h2 := hBl.out.1; omega)
    refine ⟨a5, false, _, (NM, tx), rfl, H11.out, HV8.out, (fun _ h => by cases h), K11.out, B11.out, L11, ?_, ?_⟩
    · exact O11
    · exact T10.out.setCell (p := ⟨bl, 0, none⟩) (Or.inr (Or.inr (Or.inl rfl))) _
end Go.Proofs.YtbglakhojbhfbaaGreatDoor
