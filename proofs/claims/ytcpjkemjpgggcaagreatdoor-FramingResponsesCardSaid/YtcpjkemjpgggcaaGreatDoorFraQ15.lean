/- Texts packed for one claim, 15 of 34: Parse RfB RfC RfD RfE RfC2. -/
import Derived.Test.YtcpjkemjpgggcaaGreatDoorFraQ3
import Derived.Test.YtcpjkemjpgggcaaGreatDoorFraQ14
import Derived.Test.YtcpjkemjpgggcaaGreatDoorFraQ13
import Derived.Test.YtcpjkemjpgggcaaGreatDoorFraQ10
import Derived.Test.YtcpjkemjpgggcaaGreatDoorFraQ2
set_option linter.unusedSimpArgs false
set_option linter.unusedVariables false
-- Parse
namespace Go.Proofs.YtcpjkemjpgggcaaGreatDoor
open Go.RowKit
theorem parF_eq (s : ByteArray) (a a1 a2 a3 a4 t : Nat) (b1 : Bool) (V : Option Nat) (h1 : a1 = a + skipN (s.data.toList.drop a)) (hb : isB 59 (s.data.toList.drop a1) = b1) (h2 : a2 = a1 + if b1 = true then 1 else 0) (h3 : a3 = a2 + skipN (s.data.toList.drop a2)) (ht : t = tokN (s.data.toList.drop a3)) (h4 : a4 = a3 + t) (hV : V = valF (s.data.toList.drop a4)) :
    parF (s.data.toList.drop a) = if b1 = true ∧ t ≠ 0 then V.map (fun n => (a4 - a) + n) else none := by
  unfold parF
  rw [List.drop_drop, ← h1]
  cases hd : s.data.toList.drop a1 with
  | nil =>
    rw [hd] at hb
    have : b1 = false := hb.symm
    rw [this, if_neg (by simp)]
  | cons b r =>
    simp only
    by_cases h59 : b = 59
    · have hb1 : b1 = true := by
        rw [← hb, hd, h59]
        exact (isB_iff (n := 59) (c := 59) rfl).2 ⟨r, rfl⟩
      rw [hb1, if_pos rfl] at h2
      have e2 : s.data.toList.drop a2 = r := by rw [h2, ← List.drop_drop, hd]; rfl
      rw [e2] at h3
      have e3 : s.data.toList.drop a3 = r.drop (skipN r) := by rw [h3, ← List.drop_drop, e2]
      rw [e3] at ht
      have e4 : s.data.toList.drop a4 = r.drop (skipN r + tokN (r.drop (skipN r))) := by rw [h4, ← List.drop_drop, e3, List.drop_drop, ht]
      rw [e4] at hV
      rw [if_pos h59, ← ht]
      by_cases h0 : t = 0
      · rw [if_pos h0, if_neg (fun h => h.2 h0)]
      · rw [if_neg h0, if_pos ⟨hb1, h0⟩, hV, ← ht]
        congr 1
        funext n
        omega
    · have hb1 : b1 = false := by
        rw [← hb, hd, Bool.eq_false_iff]
        intro h
        obtain ⟨t', e⟩ := (isB_iff (n := 59) (c := 59) rfl).1 h
        injection e with e _
        exact h59 e
      rw [if_neg h59, hb1, if_neg (by simp)]
theorem skip_le (s : ByteArray) (a : Nat) (h : a ≤ s.size) : a + skipN (s.data.toList.drop a) ≤ s.size := by
  have := skipN_le (s.data.toList.drop a)
  rw [List.length_drop] at this
  have hl : s.data.toList.length = s.size := by simp
  omega
theorem tok_le (s : ByteArray) (a : Nat) (h : a ≤ s.size) : a + tokN (s.data.toList.drop a) ≤ s.size := by
  have := tokN_le (s.data.toList.drop a)
  rw [List.length_drop] at this
  have hl : s.data.toList.length = s.size := by simp
  omega
theorem isB_lt {s : ByteArray} {a : Nat} {c : Int} (h : isB c (s.data.toList.drop a) = true) : a + 1 ≤ s.size := by
  have hl : s.data.toList.length = s.size := by simp
  rcases Nat.lt_or_ge a s.size with h1 | h1
  · omega
  · rw [List.drop_of_length_le (by omega)] at h
    cases h
/-- Where each thing lies that Parse's closure holds. -/
structure PrAt (w : World) (g bc bb bl B a : Nat) (s : ByteArray) (bad : Bool) (v : Value) (l : List Fd) : Prop where
  c : CurAt w g s a
  kc : Blk w bc #[.pointer (some ⟨g, 0, none⟩)] 200
  kb : Blk w bb #[.bool bad] 4
  kl : Blk w bl #[v] 155
  o : OwnP w B v l
  lt : bl < B ∧ bb < B ∧ g < B ∧ bc < B
  sz : B ≤ w.heap.size
theorem next_any (w : World) (g bc bb bl B a : Nat) (s : ByteArray) (hs : s.size ≤ 1000000) (v : Value) (l : List Fd) (h : PrAt w g bc bb bl B a s false v l) (hll : l.length ≤ 1000000) :
    Calls Tryz.prog 194 #[.pointer (some ⟨bc, 0, none⟩), .pointer (some ⟨bb, 0, none⟩), .pointer (some ⟨bl, 0, none⟩)] w fun e w' => ∃ a' v' q, e = .returned (.bool ((parF (s.data.toList.drop a)).isSome && !(s.data.toList.drop a').isEmpty)) ∧ (∀ n, parF (s.data.toList.drop a) = some n → a' = a + n) ∧
      PrAt w' g bc bb bl B a' s (parF (s.data.toList.drop a)).isNone v' (l ++ [q]) ∧ Touch (PrP g bb bl v) w w' := by
  obtain ⟨a1, h1⟩ : ∃ a1, a1 = a + skipN (s.data.toList.drop a) := ⟨_, rfl⟩
  obtain ⟨b1, hb⟩ : ∃ b1, isB 59 (s.data.toList.drop a1) = b1 := ⟨_, rfl⟩
  obtain ⟨a2, h2⟩ : ∃ a2, a2 = a1 + if b1 = true then 1 else 0 := ⟨_, rfl⟩
  obtain ⟨a3, h3⟩ : ∃ a3, a3 = a2 + skipN (s.data.toList.drop a2) := ⟨_, rfl⟩
  obtain ⟨t, ht⟩ : ∃ t, t = tokN (s.data.toList.drop a3) := ⟨_, rfl⟩
  obtain ⟨a4, h4⟩ : ∃ a4, a4 = a3 + t := ⟨_, rfl⟩
  obtain ⟨V, hV⟩ : ∃ V, V = valF (s.data.toList.drop a4) := ⟨_, rfl⟩
  have hpf := parF_eq s a a1 a2 a3 a4 t b1 V h1 hb h2 h3 ht h4 hV
  have l1 : a1 ≤ s.size := by rw [h1]; exact skip_le s a h.c.le
  have l2 : a2 ≤ s.size := by
    rw [h2]
    split
    · rename_i hb1
      rw [hb1] at hb
      exact isB_lt hb
    · omega
  have l3 : a3 ≤ s.size := by rw [h3]; exact skip_le s a2 l2
  have l4 : a4 ≤ s.size := by rw [h4, ht]; exact tok_le s a3 l3
  obtain ⟨X, hX⟩ : ∃ X, X = s.extract a3 a4 := ⟨_, rfl⟩
  have hXs : X.size = t := by rw [hX]; simp; omega
  obtain ⟨t0, ht0⟩ : ∃ t0, t0 = (lowB X).toList.isEmpty := ⟨_, rfl⟩
  have ht00 : t0 = decide (t = 0) := by
    rw [ht0, isEmpty_list, Bool.eq_iff_iff, List.isEmpty_iff, decide_eq_true_eq]
    have hl : (lowB X).data.toList.length = t := by rw [← Lib.size_eq, lowB_size, hXs]
    constructor
    · intro e
      rw [e] at hl
      simpa using hl.symm
    · intro e
      exact List.eq_nil_of_length_eq_zero (by omega)
  have n1 : g ≠ bc := h.c.k.ne h.kc (by decide)
  have n2 : g ≠ bb := h.c.k.ne h.kb (by decide)
  have n3 : g ≠ bl := h.c.k.ne h.kl (by decide)
  refine (next_walk w g bc bb bl B a a1 a2 a3 a4 t s hs v l h.c h.kc h.kb h.kl h.o h.lt h.sz hll ⟨fun e => n1 (show bc = g from e).symm, fun e => n2 (show bb = g from e).symm, fun e => n3 (show bl = g from e).symm, h.kc.ne h.kb (by decide), h.kl.ne h.kb (by decide), h.kc.ne h.kl (by decide)⟩ b1 t0 V.isSome V X (lowB X) h1 hb h2 h3 ht h4 hX (show X.size ≤ 1000000 by omega) rfl ht0.symm hV rfl).mono ?_
  rintro e w' ⟨a5, E, v', q, rfl, hc, hV5, hE, k1, k2, k3, ho, tt⟩
  have hsome : (parF (s.data.toList.drop a)).isSome = (b1 && (!t0 && V.isSome)) := by
    rw [hpf, ht00]
    cases b1
    · rfl
    · by_cases h0 : t = 0
      · rw [if_neg (fun h => h.2 h0)]; simp [h0]
      · rw [if_pos ⟨rfl, h0⟩]; cases V <;> simp [h0]
  refine ⟨a5, v', q, ?_, ?_, ⟨hc, k1, ?_, k3, ho, h.lt, Nat.le_trans h.sz tt.size⟩, tt⟩
  · rw [hsome]
    cases b1
    · rfl
    cases t0
    · cases hv : V.isSome
      · rfl
      · rw [hE rfl rfl hv]; rfl
    · rfl
  · intro n hn
    rw [hpf] at hn
    split at hn
    · cases V with
      | none => cases hn
      | some m =>
        cases hn
        have := hV5 m rfl
        have la : a1 ≤ a2 := by rw [h2]; exact Nat.le_add_right _ _
        have lb : a ≤ a1 := by rw [h1]; exact Nat.le_add_right _ _
        have lc : a2 ≤ a3 := by rw [h3]; exact Nat.le_add_right _ _
        show a5 = a + (a4 - a + m)
        omega
    · cases hn
  · have : (parF (s.data.toList.drop a)).isNone = !(b1 && (!t0 && V.isSome)) := by rw [← hsome]; cases parF (s.data.toList.drop a) <;> rfl
    rw [this]
    exact k2
def wordC (NM : ByteArray) : Option Nat → ByteArray × Nat × Int
  | none => (⟨#[]⟩, 0, 3)
  | some k => (NM, k, 0)
def parsS (L : List UInt8) : Option Nat → Option Nat
  | none => none
  | some n => (parsF (L.drop n)).map (· + 1)
theorem parsF_S {L : List UInt8} (h : L ≠ []) : parsF L = parsS L (parF L) := by
  rw [parsF_step h]
  cases parF L <;> rfl
def curPos (w : World) (g : Nat) : Nat := match w.cell? ⟨g, 1, none⟩ with
  | some (.int _ n) => n.toNat
  | _ => 0
theorem curPos_at {w : World} {g a : Nat} {s : ByteArray} (h : CurAt w g s a) : curPos w g = a := by
  unfold curPos
  have := h.k.cell 1
  rw [this]
  rfl
def parMeas (n g : Nat) (u : Value) (w : World) : Nat := match u with
  | .bool true => n + 1 - curPos w g
  | _ => 0
theorem results_tct {fn : Func} {t p u : Tmp} {ty : TypeId} (h : fn.results = #[.tmp t, .cell p ty, .tmp u]) (tmps : Array Value) (P : Program) (w : World) :
    (results fn tmps).run P w = ((asAddr (tmps.getD p undef)).run P w).andThen fun a w₁ => ((loadVar ty a).run P w₁).andThen fun v w₂ => .ok (.tuple #[tmps.getD t undef, v, tmps.getD u undef]) w₂ := by
  simp only [results, h]
  simp [Sem.run_bind, Result.andThen]
theorem results_tct_at {fn : Func} {t p u : Tmp} {ty : TypeId} (h : fn.results = #[.tmp t, .cell p ty, .tmp u]) (tmps : Array Value) (P : Program) (w : World) (g : Nat) (x : Value) (hp : tmps.getD p undef = .pointer (some ⟨g, 0, none⟩)) (hx : w.cell? ⟨g, 0, none⟩ = some x) (ha : ∀ W, (isAgg ty).run P W = .ok false W) :
    (results fn tmps).run P w = .ok (.tuple #[tmps.getD t undef, x, tmps.getD u undef]) w := by
  rw [results_tct h, hp]
  have hl : (loadVar ty ⟨g, 0, none⟩).run P w = .ok x w := by
    unfold loadVar
    simp [Sem.run_bind, ha, Result.andThen, run_load, hx]
  show ((loadVar ty ⟨g, 0, none⟩).run P w).andThen _ = _
  rw [hl]
  rfl
set_option maxRecDepth 100000 in
set_option maxHeartbeats 8000000 in
theorem params_any (s : ByteArray) (hs : s.size ≤ 1000000) (w : World) :
    Calls Tryz.prog 165 #[.string s] w fun e w' => ∃ p c, e = .returned (.tuple #[.string (wordP s).1, .slice p (wordP s).2.1 c, .int .i64 (wordP s).2.2]) ∧ Below w.heap.size w w' := by
  by_cases h0 : s.size = 0
  · have he : s.toList.isEmpty = true := by
      rw [isEmpty_list, List.isEmpty_iff]
      exact List.eq_nil_of_length_eq_zero (by rw [← Lib.size_eq]; exact h0)
    have HW : Hid (wordP s = (⟨#[]⟩, 0, 2)) := by show _ = _; unfold wordP; rw [if_pos h0]
    clear h0
    go_enter Tryz.func165, Tryz.ntmps165
    go_wp2_with fail
    have a1 : ∀ W, (isAgg 155).run Tryz.prog W = .ok false W := fun W => by kernel_rfl
    refine bodyPost_ret (v := .tuple #[.string ⟨#[]⟩, .slice none 0 0, .int .i64 2]) (results_tct_at Tryz.results165 _ _ _ w.heap.size (.slice none 0 0) rfl ((Blk.new w #[.slice none 0 0] 155).cell 0) a1) rfl ?_
    rw [HW.out]
    exact ⟨none, 0, rfl, (Below.refl _ _).alloc (Nat.le_refl _) _⟩
  have HCN : Hid (CurAt ((w.alloc (.cells #[.slice none 0 0] 155)).alloc (.cells #[.string s, .int .i64 0] 219)) (w.heap.size + 1) s 0) := ⟨Blk.new' (by simp), Nat.zero_le _⟩
  have he : s.toList.isEmpty = false := by
    rw [isEmpty_list, List.isEmpty_eq_false_iff]
    intro e
    have hl : s.data.toList.length = s.size := by simp
    rw [e] at hl
    simp at hl
    omega
  obtain ⟨t, ht⟩ : ∃ t, t = tokN (s.data.toList.drop 0) := ⟨_, rfl⟩
  have htl := tok_le s 0 (Nat.zero_le _)
  rw [← ht, Nat.zero_add] at htl
  obtain ⟨X, hX⟩ : ∃ X, X = s.extract 0 t := ⟨_, rfl⟩
  have hXs : X.size = t := by rw [hX]; simp; omega
  obtain ⟨NM, hNM⟩ : ∃ N, N = lowB X := ⟨_, rfl⟩
  obtain ⟨t0, ht0⟩ : ∃ t0, t0 = NM.toList.isEmpty := ⟨_, rfl⟩
  have hne : NM.toList.isEmpty = t0 := ht0.symm
  have ht00 : t0 = decide (t = 0) := by
    rw [ht0, hNM, isEmpty_list, Bool.eq_iff_iff, List.isEmpty_iff, decide_eq_true_eq]
    have hl : (lowB X).data.toList.length = t := by rw [← Lib.size_eq, lowB_size, hXs]
    constructor
    · intro e
      rw [e] at hl
      simpa using hl.symm
    · intro e
      exact List.eq_nil_of_length_eq_zero (by omega)
  obtain ⟨F, hF⟩ : ∃ F, F = parsF (s.data.toList.drop t) := ⟨_, rfl⟩
  have hW : wordP s = if t0 = true then ((⟨#[]⟩, 0, 3) : ByteArray × Nat × Int) else wordC NM F := by
    unfold wordP
    rw [if_neg h0]
    have ht' : t = tokN s.data.toList := ht
    rw [← ht', ← hF, hNM, hX, ht00]
    by_cases h : t = 0
    · rw [if_pos h, if_pos (by simpa using h)]
    · rw [if_neg h, if_neg (by simpa using h)]
      cases F <;> rfl
  have HW := Lib.hid hW
  have HT := Lib.hid ht
  have HX := Lib.hid hX
  have HNM := Lib.hid hNM
  have HF := Lib.hid hF
  have HTL := Lib.hid htl
  have HXS : Hid (X.size ≤ 1000000) := by show _ ≤ _; omega
  clear h0 ht hX hXs hNM ht0 ht00 hF hW htl
  have hag : ∀ W, (isAgg 155).run Tryz.prog W = .ok false W := fun W => by kernel_rfl
  have HAG := Lib.hid hag
  clear hag
  go_enter Tryz.func165, Tryz.ntmps165
  go_wp2_with fail
  refine (newc_any s _).mono ?_
  rintro e1 w1 ⟨rfl, hw1⟩
  rw [World.size_alloc]
  have hc1 : CurAt w1 (w.heap.size + 1) s 0 := by rw [hw1]; exact HCN.out
  have kl1 : Blk w1 w.heap.size #[.slice none 0 0] 155 := by rw [hw1]; exact (Blk.new _ _ _).alloc _
  have hb1 : Below w.heap.size w w1 := by rw [hw1]; exact ((Below.refl _ _).alloc (Nat.le_refl _) _).alloc (by simp) _
  have hz1 : w1.heap.size = w.heap.size + 2 := by rw [hw1]; simp
  have hsb : Below w1.heap.size w1 (w1.alloc (.cells #[.pointer (some ⟨w.heap.size + 1, 0, none⟩)] 200)) := (Below.refl _ _).alloc (Nat.le_refl _) _
  have HC2 := Lib.hid (hc1.call hsb)
  have KC2 : Hid (Blk (w1.alloc (.cells #[.pointer (some ⟨w.heap.size + 1, 0, none⟩)] 200)) w1.heap.size #[.pointer (some ⟨w.heap.size + 1, 0, none⟩)] 200) := Blk.new _ _ _
  have HZ1 := Lib.hid hz1
  have KL2 := Lib.hid (kl1.call hsb)
  have HB2 : Hid (Below w.heap.size w (w1.alloc (.cells #[.pointer (some ⟨w.heap.size + 1, 0, none⟩)] 200))) := hb1.trans (hsb.mono hb1.size)
  have HZ2 : Hid ((w1.alloc (.cells #[.pointer (some ⟨w.heap.size + 1, 0, none⟩)] 200)).heap.size = w.heap.size + 3) := by show _ = _; simp; omega
  clear hw1 hc1 kl1 hb1 hz1 hsb HCN
  go_wp2_with fail
  refine (ctoken_any HC2.out hs).mono ?_
  rintro e3 w3 ⟨rfl, hc3, ht3⟩
  rw [← HT.out, Nat.zero_add] at hc3 ⊢
  rw [← HX.out]
  have HC3 := Lib.hid hc3
  have KC3 := Lib.hid (KC2.out.touch ht3 (fun e => by have h : w1.heap.size = w.heap.size + 1 := e; have h2 := HZ1.out; omega))
  have KL3 := Lib.hid (KL2.out.touch ht3 (fun e => by have h : w.heap.size = w.heap.size + 1 := e; omega))
  have HB3 : Hid (Below w.heap.size w w3) := HB2.out.trans (ht3.below (fun k _ hk => by rw [show k = w.heap.size + 1 from hk]; omega) HB2.out.size)
  have HZ3 : Hid (w.heap.size + 3 ≤ w3.heap.size) := by show _ ≤ _; rw [← HZ2.out]; exact ht3.size
  clear hc3 ht3
  go_wp2_with fail
  refine (olower_any X HXS.out w3).mono ?_
  rintro e4 w4 ⟨rfl, hb4⟩
  rw [← HNM.out]
  obtain ⟨B, hB⟩ : ∃ B, B = w4.heap.size + 1 := ⟨_, rfl⟩
  have hsb : Below w4.heap.size w4 (w4.alloc (.cells #[.bool t0] 4)) := (Below.refl _ _).alloc (Nat.le_refl _) _
  have hsb2 : Below w3.heap.size w3 (w4.alloc (.cells #[.bool t0] 4)) := hb4.trans (hsb.mono hb4.size)
  have PR : Hid (PrAt (w4.alloc (.cells #[.bool t0] 4)) (w.heap.size + 1) w1.heap.size w4.heap.size w.heap.size B t s t0 (.slice none 0 0) []) :=
    ⟨HC3.out.call hsb2, KC3.out.call hsb2, Blk.new _ _ _, KL3.out.call hsb2, World.ownsRow_nil _ _ _ _, by have h1 := HZ3.out; have h2 := hb4.size; have h3 := HZ1.out; omega, by rw [hB]; simp⟩
  have HBP : Hid (Below w.heap.size w (w4.alloc (.cells #[.bool t0] 4))) := HB3.out.trans (hsb2.mono HB3.out.size)
  have HBW : Hid (w.heap.size < B ∧ w.heap.size ≤ w4.heap.size) := by have h1 := HZ3.out; have h2 := hb4.size; exact ⟨by omega, by omega⟩
  clear hb4 hB hsb hsb2 HC2 KC2 KL2 HB2 HZ2 HC3 KC3 KL3
  have c0 := PR.out.kc.cell 0
  have b0 := PR.out.kb.cell 0
  simp at c0 b0
  obtain ⟨g4, hg4⟩ : ∃ g, g = w4.heap.size := ⟨_, rfl⟩
  cases t0 with
  | true =>
    have HWE : Hid (wordP s = (⟨#[]⟩, 0, 3)) := by show _ = _; rw [HW.out, if_pos rfl]
    have l0 := PR.out.kl.cell 0
    have f0 := PR.out.kl.froz 0
    simp at l0
    clear hg4
    go_wp2_with fail
    refine wp_loop_rounds 1 ?_
    rw [rounds_succ]
    go_wp2_with fail
    refine bodyPost_ret (v := .tuple #[.string ⟨#[]⟩, .slice none 0 0, .int .i64 3]) (results_tct_at Tryz.results165 _ _ _ w.heap.size (.slice none 0 0) rfl ((l_set PR.out.kl (.slice none 0 0)).cell 0) HAG.out) rfl ?_
    rw [HWE.out]
    exact ⟨none, 0, rfl, HBP.out.setCell (p := ⟨w.heap.size, 0, none⟩) (Nat.le_refl _) _⟩
  | false =>
    have hcd := cdone_any PR.out.c hs
    have HWE : Hid (wordP s = wordC NM F) := by show _ = _; rw [HW.out, if_neg (by decide)]
    have HCD := Lib.hid hcd
    clear hcd
    go_wp2_with fail
    refine HCD.out.mono ?_
    rintro e5 w5 ⟨rfl, hb5⟩
    have PR5 : Hid (PrAt w5 (w.heap.size + 1) w1.heap.size g4 w.heap.size B t s false (.slice none 0 0) []) := by
      rw [hg4]
      exact ⟨PR.out.c.call hb5, PR.out.kc.call hb5, PR.out.kb.call hb5, PR.out.kl.call hb5, World.ownsRow_nil _ _ _ _, PR.out.lt, Nat.le_trans PR.out.sz hb5.size⟩
    have HB5 : Hid (Below w.heap.size w w5) := HBP.out.trans (hb5.mono HBP.out.size)
    have HG4 : Hid (w.heap.size ≤ g4) := by rw [hg4]; exact HBW.out.2
    rw [← hg4]
    clear hb5 c0 b0 hg4 HCD PR HBP
    go_wp2_with fail
    go_loopw [8] (fun u8 wr => ∃ (a : Nat) (xs : List Fd) (v : Value) (more bad : Bool), u8 = .bool more ∧ PrAt wr (w.heap.size + 1) w1.heap.size g4 w.heap.size B a s bad v xs ∧ (bad = true → more = false ∧ F = none) ∧ (bad = false → xs.length ≤ a ∧ F = (parsF (s.data.toList.drop a)).map (· + xs.length) ∧ more = !(s.data.toList.drop a).isEmpty) ∧ Below w.heap.size w wr) (fun u8 wr => parMeas s.size (w.heap.size + 1) u8 wr)
    case atStart => exact ⟨t, [], .slice none 0 0, _, false, rfl, PR5.out, (fun h => by cases h), fun _ => ⟨Nat.zero_le _, by rw [HF.out]; cases parsF (s.data.toList.drop t) <;> rfl, rfl⟩, HB5.out⟩
    case round =>
      obtain ⟨a, xs, v, more, bad, rfl, hpr, hbd, hok, hb⟩ := hrel
      have HPR := Lib.hid hpr
      have HBD := Lib.hid hbd
      have HOK := Lib.hid hok
      have HB := Lib.hid hb
      have k0 := hpr.kb.cell 0
      have l0 := hpr.kl.cell 0
      have f0 := hpr.kl.froz 0
      simp at k0 l0
      clear hpr hbd hok hb
      cases more with
      | true =>
        have hb0 : bad = false := by
          cases bad with
          | false => rfl
          | true => exact absurd (HBD.out rfl).1 (by decide)
        subst hb0
        obtain ⟨hxl, hFa, hmo⟩ := HOK.out rfl
        have hne : s.data.toList.drop a ≠ [] := by
          intro e
          rw [e] at hmo
          cases hmo
        have hFs := parsF_S hne
        have hal := HPR.out.c.le
        have HNX := Lib.hid (next_any wr (w.heap.size + 1) w1.heap.size g4 w.heap.size B a s hs v xs HPR.out (by omega))
        obtain ⟨PF, hPF⟩ : ∃ P, P = parF (s.data.toList.drop a) := ⟨_, rfl⟩
        rw [← hPF] at HNX hFs
        have HFA : Hid (F = (parsS (s.data.toList.drop a) PF).map (· + xs.length)) := by
          show _ = _
          rw [hFa, hFs]
        have HP2 : Hid (∀ n, PF = some n → 2 ≤ n) := by
          show ∀ n, _ → _
          intro n hn
          rw [hPF] at hn
          exact (parF_le hn).1
        have HXL := Lib.hid hxl
        have HCP : Hid (curPos wr (w.heap.size + 1) = a) := curPos_at HPR.out.c
        have HALE := Lib.hid hal
        have HVB := Lib.hid (fun k hk => (ownP_blk HPR.out.o k hk).1 : ∀ k, v.ownBlock = some k → B ≤ k)
        clear hxl hFa hmo hne hFs hal hPF
        go_wp2_with (go_at_call 194; refine HNX.out.mono ?_; rintro e6 w6 ⟨a', v', q, rfl, hn6, hp6, ht6⟩; have HN6 := Lib.hid hn6; have HP6 := Lib.hid hp6; have HB6 : Hid (Below w.heap.size w w6) := (HB.out.trans (ht6.below (B := w.heap.size) (fun k _ hk => by rcases hk with e | e | e | e; (rw [show k = w.heap.size + 1 from e]; omega); (rw [e]; exact HG4.out); (rw [e]; exact Nat.le_refl _); (have h1 := HVB.out k e; have h2 := HBW.out.1; omega)) HB.out.size)); clear hn6 hp6 ht6)
        go_roundw
        case rel =>
          refine ⟨a', xs ++ [q], v', _, PF.isNone, rfl, HP6.out, fun h => ?_, fun h => ?_, HB6.out⟩
          · cases PF with
            | none => exact ⟨rfl, by rw [HFA.out]; rfl⟩
            | some n => cases h
          · cases PF with
            | none => cases h
            | some n =>
              have h1 := HN6.out n rfl
              have h2 := HP2.out n rfl
              have h3 := HXL.out
              refine ⟨by rw [List.length_append, List.length_singleton]; omega, ?_, rfl⟩
              rw [HFA.out, h1, List.length_append, List.length_singleton]
              unfold parsS
              simp only
              rw [List.drop_drop]
              cases parsF (s.data.toList.drop (a + n)) with
              | none => rfl
              | some k => simp; omega
        case measure =>
          have h3 := HCP.out
          have h4 := HALE.out
          have h5 := curPos_at HP6.out.c
          have h6 := HP6.out.c.le
          cases PF with
          | none =>
            show 0 < parMeas s.size (w.heap.size + 1) (.bool true) wr
            unfold parMeas
            simp only
            omega
          | some n =>
            have h1 := HN6.out n rfl
            have h2 := HP2.out n rfl
            cases he : (s.data.toList.drop a').isEmpty with
            | true =>
              show 0 < parMeas s.size (w.heap.size + 1) (.bool true) wr
              unfold parMeas
              simp only
              omega
            | false =>
              show parMeas s.size (w.heap.size + 1) (.bool true) w6 < parMeas s.size (w.heap.size + 1) (.bool true) wr
              unfold parMeas
              simp only
              omega
      | false =>
        cases bad with
        | true =>
          have HE : Hid (wordP s = (⟨#[]⟩, 0, 3)) := by show _ = _; rw [HWE.out, (HBD.out rfl).2]; rfl
          go_wp2_with fail
          refine bodyPost_ret (v := .tuple #[.string ⟨#[]⟩, .slice none 0 0, .int .i64 3]) (results_tct_at Tryz.results165 _ _ _ w.heap.size (.slice none 0 0) rfl ((l_set HPR.out.kl (.slice none 0 0)).cell 0) HAG.out) rfl ?_
          rw [HE.out]
          first | exact ⟨none, 0, rfl, HB.out.setCell (p := ⟨w.heap.size, 0, none⟩) (Nat.le_refl _) _⟩ | exact ⟨⟨none, 0, rfl⟩, HB.out.setCell (p := ⟨w.heap.size, 0, none⟩) (Nat.le_refl _) _⟩
        | false =>
          obtain ⟨_, hFa, hmo⟩ := HOK.out rfl
          have he : s.data.toList.drop a = [] := by
            cases hd : s.data.toList.drop a with
            | nil => rfl
            | cons b l => rw [hd] at hmo; cases hmo
          rw [he, parsF_nil] at hFa
          have HE : Hid (wordP s = (NM, xs.length, 0)) := by
            show _ = _
            rw [HWE.out, hFa]
            show wordC NM (some (0 + xs.length)) = _
            rw [Nat.zero_add]
            rfl
          obtain ⟨pv, cv, rfl⟩ := own_slice HPR.out.o
          clear hFa hmo he
          go_wp2_with fail
          refine wp_region_drew_tail 3 (by kernel_rfl) (by kernel_rfl) ?_
          simp only [List.take_succ_cons, List.take_zero, List.drop_succ_cons, List.drop_zero]
          repeat go_big_quiet_step (fail)
          refine wpQuiet_nil ?_
          rintro _ ⟨nq, rfl⟩
          go_wp2_with fail
          have kq : Blk (wr.drewN nq) w.heap.size #[.slice pv xs.length cv] 155 := HPR.out.kl
          refine bodyPost_ret (v := .tuple #[.string NM, .slice pv xs.length cv, .int .i64 0]) (results_tct_at Tryz.results165 _ _ _ w.heap.size (.slice pv xs.length cv) rfl ((l_set kq (.slice pv xs.length cv)).cell 0) HAG.out) rfl ?_
          rw [HE.out]
          have hfin := (below_drewM HB.out nq).setCell (p := ⟨w.heap.size, 0, none⟩) (Nat.le_refl _) (.slice pv xs.length cv)
          first | exact ⟨pv, cv, rfl, hfin⟩ | exact ⟨⟨pv, cv, rfl⟩, hfin⟩
set_option maxRecDepth 100000 in
set_option maxHeartbeats 1000000 in
theorem word_any (s : ByteArray) (hs : s.size ≤ 1000000) (w : World) :
    Calls Tryz.prog 122 #[.string s] w fun e w' => e = .returned (.tuple #[.string (wordP s).1, .bool (decide (0 < (wordP s).2.1)), .bool (wOk s)]) ∧ Below w.heap.size w w' := by
  have HP := Lib.hid (params_any s hs w)
  unfold wOk
  obtain ⟨⟨nm, k, e⟩, hW⟩ : ∃ W, W = wordP s := ⟨_, rfl⟩
  rw [← hW] at HP ⊢
  simp only at HP ⊢
  obtain ⟨q, hq⟩ : ∃ q, q = (e == 0) := ⟨_, rfl⟩
  have hqe : (e == 0) = q := hq.symm
  rw [hqe]
  obtain ⟨r, hr⟩ : ∃ r, r = decide (0 < k) := ⟨_, rfl⟩
  have hre : decide (0 < k) = r := hr.symm
  have hri : decide ((0 : Int) < (k : Int)) = r := by rw [hr]; exact decide_eq_decide.2 (by omega)
  rw [hre]
  clear hW hq hr
  go_enter Tryz.func122, Tryz.ntmps122
  go_wp2_with (go_at_call 165; refine HP.out.mono ?_; rintro e1 w1 ⟨p1, c1, rfl, hb⟩; have HB := Lib.hid hb; clear hb)
  refine bodyPost_ret (v := .tuple #[.string nm, .bool r, .bool q]) (by simp [results, Tryz.results122, go_sem]) rfl ?_
  exact ⟨rfl, HB.out⟩
end Go.Proofs.YtcpjkemjpgggcaaGreatDoor
-- RfB
namespace Go.Proofs.YtcpjkemjpgggcaaGreatDoor
open Go.RowKit
set_option maxRecDepth 100000 in
theorem rskip_any (s : ByteArray) (hs : s.size ≤ 1000000) (w : World) : Calls Tryz.prog 200 #[.string s] w fun e w' => e = .returned (.int .i64 (skipN s.data.toList)) ∧ w = w' := by
  have hsi : (s.size : Int) ≤ 1000000 := by omega
  go_enter Tryz.func200, Tryz.ntmps200
  go_wp2_with fail
  go_loop [3] (fun i => ∃ k : Nat, k ≤ s.size ∧ i = .int .i64 k ∧ ∀ j, j < k → isBl (bt s j) = true) (fun i => s.size - (intOf i).toNat)
  case atStart => exact ⟨0, by omega, rfl, fun j hj => by omega⟩
  case round =>
    obtain ⟨k, hk, rfl, hall⟩ := hrel
    have HA := Lib.hid hall
    clear hall
    by_cases hlt : k < s.size
    · have hk1 : decide ((k : Int) < (s.size : Int)) = true := decide_eq_true (by omega)
      obtain ⟨b, hb⟩ : ∃ b, b = bt s k := ⟨_, rfl⟩
      have hix : ∀ W : World, (Instr.index 9 (.string s) (.int .i64 k)).run Tryz.prog W = .ok (.int .u8 b) W := by rw [hb]; exact index_bt s k hlt
      have HB := Lib.hid hb
      clear hb
      by_cases h32 : b = 32
      · have e1 : (b == 32) = true := by rw [beq_iff_eq]; exact h32
        have hbl : Hid (isBl b = true) := isBl_true (.inl h32)
        clear h32
        go_wp2_with fail
        go_round
        case rel => exact ⟨k + 1, hlt, by go_num, fun j hj => by
          rcases Nat.lt_or_ge j k with h | h
          · exact HA.out j h
          · rw [show j = k by omega, ← HB.out]; exact hbl.out⟩
        case measure => simp [intOf]; omega
      · have e1 : (b == 32) = false := by rw [beq_eq_false_iff_ne]; exact h32
        by_cases h9 : b = 9
        · have e2 : (b == 9) = true := by rw [beq_iff_eq]; exact h9
          have hbl : Hid (isBl b = true) := isBl_true (.inr h9)
          clear h32 h9
          go_wp2_with fail
          go_round
          case rel => exact ⟨k + 1, hlt, by go_num, fun j hj => by
            rcases Nat.lt_or_ge j k with h | h
            · exact HA.out j h
            · rw [show j = k by omega, ← HB.out]; exact hbl.out⟩
          case measure => simp [intOf]; omega
        · have e2 : (b == 9) = false := by rw [beq_eq_false_iff_ne]; exact h9
          have hbl : Hid (isBl b = false) := isBl_false h32 h9
          have HE : Hid (skipN s.data.toList = k) := by
            show _ = _
            exact tw_bt (P := isBl) (fun _ => rfl) hk HA.out (Or.inr ⟨hlt, by rw [← HB.out]; exact hbl.out⟩)
          clear h32 h9
          go_wp2_with fail
          go_ret
          rw [HE.out]
          exact ⟨rfl, rfl⟩
    · have hk1 : decide ((k : Int) < (s.size : Int)) = false := decide_eq_false (by omega)
      have HE : Hid (skipN s.data.toList = k) := by
        show _ = _
        exact tw_bt (P := isBl) (fun _ => rfl) hk HA.out (Or.inl (by omega))
      go_wp2_with fail
      go_ret
      rw [HE.out]
      exact ⟨rfl, rfl⟩
set_option maxRecDepth 100000 in
theorem rtoken04_any (s : ByteArray) (hs : s.size ≤ 1000000) (w : World) : Calls Tryz.prog 170 #[.string s] w fun e w' => e = .returned (.int .i64 (tokN s.data.toList)) ∧ w = w' := by
  have hsi : (s.size : Int) ≤ 1000000 := by omega
  go_enter Tryz.func170, Tryz.ntmps170
  go_wp2_with fail
  go_loop [3] (fun i => ∃ k : Nat, k ≤ s.size ∧ i = .int .i64 k ∧ ∀ j, j < k → tcharB (bt s j) = true) (fun i => s.size - (intOf i).toNat)
  case atStart => exact ⟨0, by omega, rfl, fun j hj => by omega⟩
  case round =>
    obtain ⟨k, hk, rfl, hall⟩ := hrel
    have HA := Lib.hid hall
    clear hall
    by_cases hlt : k < s.size
    · have hk1 : decide ((k : Int) < (s.size : Int)) = true := decide_eq_true (by omega)
      have hr := bt_range s k
      obtain ⟨b, hb⟩ : ∃ b, b = bt s k := ⟨_, rfl⟩
      have hix : ∀ W : World, (Instr.index 9 (.string s) (.int .i64 k)).run Tryz.prog W = .ok (.int .u8 b) W := by rw [hb]; exact index_bt s k hlt
      rw [← hb] at hr
      have HT := Lib.hid (fun W => rtchar_any b hr.1 (by omega) W)
      have HB := Lib.hid hb
      clear hb hr
      cases ht : tcharB b with
      | true =>
        rw [ht] at HT
        have hbl := Lib.hid ht
        clear ht
        go_wp2_with (go_at_call 108; refine (HT.out _).mono ?_; rintro e' w' ⟨rfl, rfl⟩)
        go_round
        case rel => exact ⟨k + 1, hlt, by go_num, fun j hj => by
          rcases Nat.lt_or_ge j k with h | h
          · exact HA.out j h
          · rw [show j = k by omega, ← HB.out]; exact hbl.out⟩
        case measure => simp [intOf]; omega
      | false =>
        rw [ht] at HT
        have HE : Hid (tokN s.data.toList = k) := by
          show _ = _
          exact tw_bt (P := tcharB) (fun _ => rfl) hk HA.out (Or.inr ⟨hlt, by rw [← HB.out]; exact ht⟩)
        clear ht
        go_wp2_with (go_at_call 108; refine (HT.out _).mono ?_; rintro e' w' ⟨rfl, rfl⟩)
        go_ret
        rw [HE.out]
        exact ⟨rfl, rfl⟩
    · have hk1 : decide ((k : Int) < (s.size : Int)) = false := decide_eq_false (by omega)
      have HE : Hid (tokN s.data.toList = k) := by
        show _ = _
        exact tw_bt (P := tcharB) (fun _ => rfl) hk HA.out (Or.inl (by omega))
      go_wp2_with fail
      go_ret
      rw [HE.out]
      exact ⟨rfl, rfl⟩
theorem ext_one (s : ByteArray) (k : Nat) (h : k < s.size) : (s.extract k (k + 1)).data.toList = [s[k]'h] := by
  rw [Lib.extract_data, show k + 1 - k = 1 by omega, List.drop_eq_getElem_cons (by simpa using h)]
  rfl
theorem valL_one (b : UInt8) : valL [b] = valueB b.toNat := by unfold valL; simp
theorem str_snoc (acc : List UInt8) (c : UInt8) (x : ByteArray) (h : x.data.toList = [c]) : (⟨acc.toArray⟩ : ByteArray) ++ x = ⟨(acc ++ [c]).toArray⟩ := by
  apply ext_list
  rw [ByteArray.data_append, Array.toList_append, h]
set_option maxRecDepth 100000 in
set_option maxHeartbeats 8000000 in
theorem rquoted_any (s : ByteArray) (hs : s.size ≤ 1000000) {Q : Option (Nat × List UInt8)} (hQ : Q = quL s.data.toList) (w : World) :
    Calls Tryz.prog 201 #[.string s] w fun e w' => e = .returned (.tuple #[.string (quT Q), .int .i64 (quN Q)]) ∧ w = w' := by
  have hsi : (s.size : Int) ≤ 1000000 := by omega
  have hsl : s.data.toList.length = s.size := by simp
  have HSL := Lib.hid hsl
  by_cases h0 : s.size = 0
  · have hq0 : Q = none := by
      rw [hQ]
      have : s.data.toList = [] := List.eq_nil_of_length_eq_zero (by omega)
      rw [this]; rfl
    have HQ := Lib.hid hq0
    have e0 : ((s.size : Int) == 0) = true := by rw [beq_iff_eq]; omega
    clear hq0 hQ hsl h0
    go_enter Tryz.func201, Tryz.ntmps201
    go_wp2_with fail
    go_ret2
    rw [HQ.out]
    exact ⟨rfl, rfl⟩
  have hp : 0 < s.size := by omega
  have e0 : ((s.size : Int) == 0) = false := by rw [beq_eq_false_iff_ne]; omega
  have hix0 : ∀ W : World, (Instr.index 9 (.string s) (.int .i64 0)).run Tryz.prog W = .ok (.int .u8 (bt s 0)) W := index_bt s 0 hp
  obtain ⟨c, hc, hdr⟩ := bt_drop s 0 hp
  rw [List.drop_zero] at hdr
  obtain ⟨x, hx⟩ : ∃ x, x = bt s 0 := ⟨_, rfl⟩
  rw [← hx] at hix0 hc
  by_cases hm : x = 34
  rotate_left
  · have hq0 : Q = none := by
      rw [hQ, hdr]
      unfold quL
      simp only
      rw [if_neg]
      rintro rfl
      exact hm hc
    have HQ := Lib.hid hq0
    have x34a : (x == 34) = false := by rw [beq_eq_false_iff_ne]; exact hm
    have x34b : (x != 34) = true := by rw [bne_iff_ne]; exact hm
    clear hq0 hQ hsl h0 hm hc hdr hx
    go_enter Tryz.func201, Tryz.ntmps201
    go_wp2_with fail
    go_ret2
    rw [HQ.out]
    exact ⟨rfl, rfl⟩
  have hc34 : c = 34 := UInt8.toNat_inj.1 (by have : (34 : UInt8).toNat = 34 := rfl
                                              omega)
  have hQ0 : Hid (Q = (qtL (s.data.toList.drop 1)).map (fun p => (p.1 + 1, [] ++ p.2))) := by
    show _ = _
    rw [hQ, hdr, hc34]
    rfl
  subst hm
  clear hQ hsl h0 hc hdr hx hc34
  go_enter Tryz.func201, Tryz.ntmps201
  go_wp2_with fail
  go_loop [4, 5] (fun u4 u5 => ∃ (k : Nat) (acc : List UInt8), 1 ≤ k ∧ k ≤ s.size ∧ u5 = .int .i64 k ∧ u4 = .string ⟨acc.toArray⟩ ∧ Q = (qtL (s.data.toList.drop k)).map (fun p => (p.1 + k, acc ++ p.2)) ∧ acc.length ≤ k) (fun _ u5 => s.size - (intOf u5).toNat)
  case atStart => exact ⟨1, [], Nat.le_refl _, hp, rfl, rfl, hQ0.out, Nat.zero_le _⟩
  case round =>
    obtain ⟨k, acc, hk1, hk, rfl, rfl, hq, hac⟩ := hrel
    clear hQ0
    obtain ⟨T, hT⟩ : ∃ T : ByteArray, T = ⟨acc.toArray⟩ := ⟨_, rfl⟩
    rw [← hT]
    have hTz : T.size = acc.length := by rw [hT]; rfl
    have HTE := Lib.hid hT
    have HAC := Lib.hid hac
    have hTi : T.size ≤ 1000000 := by omega
    clear hT hac hTz
    by_cases hlt : k < s.size
    · have hk1 : decide ((k : Int) < (s.size : Int)) = true := decide_eq_true (by omega)
      have hix2 := index_bt s k hlt
      obtain ⟨c, hc, hdr⟩ := bt_drop s k hlt
      have hcs : c = s[k]'hlt := by
        have := bt_get s k hlt
        apply UInt8.toNat_inj.1
        omega
      have HCS : Hid ((s.extract k (k + 1)).data.toList = [c]) := by show _ = _; rw [hcs]; exact ext_one s k hlt
      obtain ⟨x, hx⟩ : ∃ x, x = bt s k := ⟨_, rfl⟩
      rw [← hx] at hix2 hc
      rw [hdr] at hq
      clear hcs
      by_cases h34 : x = 34
      · have hc34 : c = 34 := UInt8.toNat_inj.1 (by have : (34 : UInt8).toNat = 34 := rfl
                                                    omega)
        rw [hc34, qtL_mark] at hq
        have HQ : Hid (Q = some (1 + k, acc)) := by show _ = _; rw [hq]; simp
        subst h34
        clear hx hc hdr hq hc34
        go_wp2_with fail
        go_ret2
        rw [HQ.out]
        refine ⟨?_, rfl⟩
        show Ending.returned (.tuple #[.string T, .int .i64 ((k : Int) + 1)]) = .returned (.tuple #[.string ⟨acc.toArray⟩, .int .i64 ((1 + k : Nat) : Int)])
        rw [HTE.out, show ((1 + k : Nat) : Int) = (k : Int) + 1 by omega]
      have x34a : (x == 34) = false := by rw [beq_eq_false_iff_ne]; exact h34
      have hc34 : c ≠ 34 := by rintro rfl; exact h34 hc
      by_cases h92 : x = 92
      · have hc92 : c = 92 := UInt8.toNat_inj.1 (by have : (92 : UInt8).toNat = 92 := rfl
                                                    omega)
        rw [hc92] at hq
        subst h92
        by_cases hend : k + 1 = s.size
        · have e1 : decide ((s.size : Int) ≤ (k : Int) + 1) = true := decide_eq_true (by omega)
          have HQ : Hid (Q = none) := by
            show _ = _
            rw [hq, hend, List.drop_of_length_le (by have := HSL.out; omega), qtL_slash]
            rfl
          clear hx hc hdr hq hc92 hc34 h34 hend
          go_wp2_with fail
          go_ret2
          rw [HQ.out]
          exact ⟨rfl, rfl⟩
        · have e1 : decide ((s.size : Int) ≤ (k : Int) + 1) = false := decide_eq_false (by omega)
          have hlt2 : k + 1 < s.size := by omega
          obtain ⟨d, hd, hdr2⟩ := bt_drop s (k + 1) hlt2
          have hds : d = s[k + 1]'hlt2 := by
            have := bt_get s (k + 1) hlt2
            apply UInt8.toNat_inj.1
            omega
          have HDS : (s.extract (k + 1) (k + 1 + 1)).data.toList = [d] := by rw [hds]; exact ext_one s (k + 1) hlt2
          have HQ : Hid (Q = if valueB d.toNat = true then (qtL (s.data.toList.drop (k + 2))).map (fun p => (p.1 + (k + 2), (acc ++ [d]) ++ p.2)) else none) := by
            show _ = _
            rw [hq, hdr2, qtL_pair]
            split
            · rw [Option.map_map]
              congr 1
              funext p
              simp
              omega
            · rfl
          clear hx hc hdr hq hc92 hc34 h34 hend hd hdr2 hds
          obtain ⟨X, hX⟩ : ∃ X, X = s.extract (k + 1) (k + 1 + 1) := ⟨_, rfl⟩
          rw [← hX] at HDS
          have hXz : X.size = 1 := by rw [hX]; simp; omega
          have HX := Lib.hid hX
          have HVL := Lib.hid (fun W => rvalue_any X (by omega) W)
          rw [HDS, valL_one] at HVL
          have HS2 : Hid (T ++ X = ⟨(acc ++ [d]).toArray⟩) := by show _ = _; rw [HTE.out]; exact str_snoc acc d X HDS
          have hsl : ∀ W : World, (Instr.slice 9 (.string s) (some (.int .i64 ((k : Int) + 1))) (some (.int .i64 ((k : Int) + 1 + 1))) none).run Tryz.prog W = .ok (.string X) W := fun W => by
            rw [hX]
            rw [run_slice_string W 9 s .i64 .i64 ((k : Int) + 1) ((k : Int) + 1 + 1) Tryz.underlying9 (by omega) (by omega) (by omega), show ((k : Int) + 1).toNat = k + 1 by omega, show ((k : Int) + 1 + 1).toNat = k + 1 + 1 by omega]
          have hadd := fun (W : World) => run_string_add_sum (P := Tryz.prog) (w := W) T X (by omega)
          clear hX HDS
          cases hv : valueB d.toNat with
          | true =>
            rw [hv] at HVL
            have HQ2 := HQ.out
            rw [if_pos hv] at HQ2
            have HQ3 := Lib.hid HQ2
            clear hv HQ2
            go_wp2_with (go_at_call 68; refine (HVL.out _).mono ?_; rintro e3 w3 ⟨rfl, rfl⟩)
            go_round
            case rel => exact ⟨k + 2, acc ++ [d], by omega, by omega, by go_num, by rw [HS2.out], HQ3.out, by have := HAC.out; simp; omega⟩
            case measure => simp [intOf]; omega
          | false =>
            rw [hv] at HVL
            have HQ2 := HQ.out
            rw [if_neg (by rw [hv]; decide)] at HQ2
            have HQ3 := Lib.hid HQ2
            clear hv HQ2
            go_wp2_with (go_at_call 68; refine (HVL.out _).mono ?_; rintro e3 w3 ⟨rfl, rfl⟩)
            go_ret2
            rw [HQ3.out]
            exact ⟨rfl, rfl⟩
      have x92a : (x == 92) = false := by rw [beq_eq_false_iff_ne]; exact h92
      have e1 : decide ((s.size : Int) ≤ (k : Int)) = false := decide_eq_false (by omega)
      have e1n : decide (s.size ≤ k) = false := decide_eq_false (by omega)
      have hc92 : c ≠ 92 := by rintro rfl; exact h92 hc
      have HQ : Hid (Q = if valueB c.toNat = true then (qtL (s.data.toList.drop (k + 1))).map (fun p => (p.1 + (k + 1), (acc ++ [c]) ++ p.2)) else none) := by
        show _ = _
        rw [hq, qtL_one _ hc34 hc92]
        split
        · rw [Option.map_map]
          congr 1
          funext p
          simp
          omega
        · rfl
      clear hx hc hdr hq hc92 hc34 h34 h92
      obtain ⟨X, hX⟩ : ∃ X, X = s.extract k (k + 1) := ⟨_, rfl⟩
      rw [← hX] at HCS
      have hXz : X.size = 1 := by rw [hX]; simp; omega
      have HVL := Lib.hid (fun W => rvalue_any X (by omega) W)
      rw [HCS.out, valL_one] at HVL
      have HS2 : Hid (T ++ X = ⟨(acc ++ [c]).toArray⟩) := by show _ = _; rw [HTE.out]; exact str_snoc acc c X HCS.out
      have hsl : ∀ W : World, (Instr.slice 9 (.string s) (some (.int .i64 (k : Int))) (some (.int .i64 ((k : Int) + 1))) none).run Tryz.prog W = .ok (.string X) W := fun W => by
        rw [hX]
        rw [run_slice_string W 9 s .i64 .i64 (k : Int) ((k : Int) + 1) Tryz.underlying9 (by omega) (by omega) (by omega), Int.toNat_natCast, show ((k : Int) + 1).toNat = k + 1 by omega]
      have hadd := fun (W : World) => run_string_add_sum (P := Tryz.prog) (w := W) T X (by omega)
      clear hX HCS
      cases hv : valueB c.toNat with
      | true =>
        rw [hv] at HVL
        have HQ2 := HQ.out
        rw [if_pos hv] at HQ2
        have HQ3 := Lib.hid HQ2
        clear hv HQ2
        go_wp2_with (go_at_call 68; refine (HVL.out _).mono ?_; rintro e3 w3 ⟨rfl, rfl⟩)
        go_round
        case rel => exact ⟨k + 1, acc ++ [c], by omega, by omega, by go_num, by rw [HS2.out], HQ3.out, by have := HAC.out; simp; omega⟩
        case measure => simp [intOf]; omega
      | false =>
        rw [hv] at HVL
        have HQ2 := HQ.out
        rw [if_neg (by rw [hv]; decide)] at HQ2
        have HQ3 := Lib.hid HQ2
        clear hv HQ2
        go_wp2_with (go_at_call 68; refine (HVL.out _).mono ?_; rintro e3 w3 ⟨rfl, rfl⟩)
        go_ret2
        rw [HQ3.out]
        exact ⟨rfl, rfl⟩
    · have hk1 : decide ((k : Int) < (s.size : Int)) = false := decide_eq_false (by omega)
      have HQ : Hid (Q = none) := by
        show _ = _
        rw [hq, List.drop_of_length_le (by have := HSL.out; omega), qtL_end]
        rfl
      clear hq
      go_wp2_with fail
      go_ret2
      rw [HQ.out]
      exact ⟨rfl, rfl⟩
end Go.Proofs.YtcpjkemjpgggcaaGreatDoor
-- RfC
namespace Go.Proofs.YtcpjkemjpgggcaaGreatDoor
open Go.RowKit
theorem cut_from (S : ByteArray) (k : Nat) (h : k ≤ S.size) : ∃ R : ByteArray, R.data.toList = S.data.toList.drop k ∧ R.size = S.size - k ∧ ∀ W : World, (Instr.slice 9 (.string S) (some (.int .i64 (k : Int))) none none).run Tryz.prog W = .ok (.string R) W := by
  refine ⟨S.extract k S.size, rest_data S k, by simp, fun W => ?_⟩
  rw [run_slice_string_l W 9 S Tryz.underlying9 .i64 (k : Int) (by omega) (by omega), Int.toNat_natCast]
theorem cut_to (S : ByteArray) (k : Nat) (h : k ≤ S.size) : ∃ R : ByteArray, R.data.toList = S.data.toList.take k ∧ R.size = k ∧ ∀ W : World, (Instr.slice 9 (.string S) none (some (.int .i64 (k : Int))) none).run Tryz.prog W = .ok (.string R) W := by
  refine ⟨S.extract 0 k, by rw [Lib.extract_data, List.drop_zero, Nat.sub_zero], by simp; omega, fun W => ?_⟩
  rw [run_slice_string_h W 9 S Tryz.underlying9 .i64 (k : Int) (by omega) (by omega), Int.toNat_natCast]
theorem results_att {P : Program} {fn : Func} {p u q : Tmp} {ty : TypeId} (h : fn.results = #[.cell p ty, .tmp u, .tmp q]) (tmps : Array Value) (w : World) (g : Nat) (cs : Array Value)
    (hp : tmps.getD p undef = .pointer (some ⟨g, 0, none⟩)) (hl : (loadVar ty ⟨g, 0, none⟩).run P w = .ok (.agg cs) w) :
    (results fn tmps).run P w = .ok (.tuple #[.agg cs, tmps.getD u undef, tmps.getD q undef]) w := by
  simp only [Array.getD_eq_getD_getElem?] at hp
  simp only [results, h]
  simp [Sem.run_bind, Result.andThen, hp, asAddr, hl, Sem.run_pure]
theorem list_ne {l : List UInt8} (h : l ≠ []) : ∃ b t, l = b :: t := by
  cases l with
  | nil => exact absurd rfl h
  | cons b t => exact ⟨b, t, rfl⟩
theorem head_bt {s : ByteArray} {b : UInt8} {t : List UInt8} (h : s.data.toList = b :: t) : 0 < s.size ∧ bt s 0 = b.toNat ∧ t = s.data.toList.drop 1 := by
  have hz : 0 < s.size := by
    have h1 : s.data.toList.length = s.size := by simp
    rw [h] at h1
    simp only [List.length_cons] at h1
    omega
  refine ⟨hz, ?_, by rw [h]; rfl⟩
  obtain ⟨c, hc, hd⟩ := bt_drop s 0 hz
  rw [List.drop_zero, h] at hd
  injection hd with e1 _
  rw [hc, e1]
def ParamR (l : List UInt8) (w : World) (e : Ending) (w' : World) : Prop :=
  ∃ (n v r : ByteArray), e = .returned (.tuple #[.agg #[.string n, .string v], .string r, .bool (parF l).isSome]) ∧ (∀ m, parF l = some m → r.data.toList = l.drop m) ∧ Below w.heap.size w w'
set_option maxRecDepth 100000 in
theorem rparam_none1 (s : ByteArray) (hs : s.size ≤ 1000000) (w : World) (h : s.data.toList.drop (skipN s.data.toList) = []) : Calls Tryz.prog 171 #[.string s] w (ParamR s.data.toList w) := by
  have hp : parF s.data.toList = none := by unfold parF; rw [h]
  have HP := Lib.hid hp
  have HK := Lib.hid (rskip_any s hs)
  have hk := skipN_le s.data.toList
  obtain ⟨k, hkk⟩ : ∃ k, k = skipN s.data.toList := ⟨_, rfl⟩
  rw [← hkk] at HK hk h
  have hl : s.data.toList.length = s.size := by simp
  obtain ⟨S1, hS1, hz1, hsl1⟩ := cut_from s k (by omega)
  have hz : S1.size = 0 := by
    have := congrArg List.length (hS1.trans h)
    simpa using this
  have e0 : ((S1.size : Int) == 0) = true := by rw [beq_iff_eq]; omega
  have KB := Lib.hid (Blk.new w #[.string ⟨#[]⟩, .string ⟨#[]⟩] 181)
  have HB := Lib.hid ((Below.refl w.heap.size w).alloc (Nat.le_refl _) (.cells #[.string ⟨#[]⟩, .string ⟨#[]⟩] 181))
  have q0 := KB.out.froz 0
  have q1 := KB.out.froz 1
  have q2 := KB.out.cell 0
  have q3 := KB.out.cell 1
  simp at q2 q3
  clear h hkk hl hS1 hz1 hz hp hk
  go_enter Tryz.func171, Tryz.ntmps171
  go_wp2_with (go_at_call 200; refine (HK.out _).mono ?_; rintro e1 w1 ⟨rfl, rfl⟩)
  refine bodyPost_ret (results_att Tryz.results171 _ _ _ _ rfl (run_loadVar_row _ _ _ _ _ _ _ (Blk.new w #[.string ⟨#[]⟩, .string ⟨#[]⟩] 181) Tryz.underlying181 rfl (by kernel_rfl))) rfl ?_
  refine ⟨⟨#[]⟩, ⟨#[]⟩, ⟨#[]⟩, ?_, (fun m hm => by rw [HP.out] at hm; cases hm), HB.out⟩
  rw [HP.out]
  rfl
theorem drop_cons_eq {l r : List UInt8} {k : Nat} {b : UInt8} (h : l.drop k = b :: r) : r = l.drop (k + 1) := by
  have h2 := congrArg (List.drop 1) h
  rw [List.drop_drop] at h2
  rw [h2]
  rfl
/-- The value's part of a parameter, as the reference goes. -/
def ParamV (l4 : List UInt8) (v : Option Nat) : Prop := valF l4 = v
theorem parF_some {l : List UInt8} {r : List UInt8} (h1 : l.drop (skipN l) = 59 :: r) (ht : tokN (r.drop (skipN r)) ≠ 0) : parF l = (valF ((r.drop (skipN r)).drop (tokN (r.drop (skipN r))))).map (fun n => skipN l + 1 + skipN r + tokN (r.drop (skipN r)) + n) := by
  unfold parF
  rw [h1]
  simp only
  rw [if_pos trivial, if_neg ht, List.drop_drop]
theorem parF_bad {l : List UInt8} {b : UInt8} {r : List UInt8} (h1 : l.drop (skipN l) = b :: r) (hb : b ≠ 59) : parF l = none := by
  unfold parF
  rw [h1]
  simp only
  rw [if_neg hb]
theorem parF_tok {l : List UInt8} {r : List UInt8} (h1 : l.drop (skipN l) = 59 :: r) (ht : tokN (r.drop (skipN r)) = 0) : parF l = none := by
  unfold parF
  rw [h1]
  simp only
  rw [if_pos trivial, if_pos ht]
theorem valF_end {l : List UInt8} (h : l.drop (skipN l) = [] ∨ ∃ b r, l.drop (skipN l) = b :: r ∧ b ≠ 61) : valF l = some 0 := by
  unfold valF
  rcases h with h | ⟨b, r, h, hb⟩
  · rw [h]
  · rw [h]; simp only; rw [if_neg hb]
theorem valF_tok {l r : List UInt8} (h : l.drop (skipN l) = 61 :: r) (ht : 0 < tokN (r.drop (skipN r))) : valF l = some (skipN l + 1 + skipN r + tokN (r.drop (skipN r))) := by
  unfold valF
  rw [h]
  simp only
  rw [if_pos trivial, if_pos ht]
theorem valF_quo {l r : List UInt8} (h : l.drop (skipN l) = 61 :: r) (ht : tokN (r.drop (skipN r)) = 0) : valF l = (quL (r.drop (skipN r))).map (fun p => skipN l + 1 + skipN r + p.1) := by
  unfold valF
  rw [h]
  simp only
  rw [if_pos trivial, if_neg (by omega)]
theorem u8_ne {b : UInt8} {n : Nat} (hn : n < 256) (h : b ≠ UInt8.ofNat n) : ((b.toNat : Int) == n) = false ∧ ((b.toNat : Int) != n) = true := by
  have : (b.toNat : Int) ≠ n := fun e => h (UInt8.toNat_inj.1 (by rw [UInt8.toNat_ofNat_of_lt' (by simpa using hn)]; omega))
  exact ⟨by rw [beq_eq_false_iff_ne]; exact this, by rw [bne_iff_ne]; exact this⟩
structure PrmS (s : ByteArray) (S1 : ByteArray) (r : List UInt8) (b : UInt8) : Prop where
  z : 0 < S1.size
  ix : ∀ W : World, (Instr.index 9 (.string S1) (.int .i64 0)).run Tryz.prog W = .ok (.int .u8 b.toNat) W
  d : S1.data.toList = b :: r
theorem prmS {s S1 : ByteArray} {r : List UInt8} {b : UInt8} (h : S1.data.toList = b :: r) : PrmS s S1 r b := by
  obtain ⟨h1, h2, _⟩ := head_bt h
  refine ⟨h1, ?_, h⟩
  have h3 := index_bt S1 0 h1
  rw [h2] at h3
  exact h3
set_option maxRecDepth 100000 in
theorem rparam_bad (s : ByteArray) (hs : s.size ≤ 1000000) (w : World) {b : UInt8} {r : List UInt8} (h : s.data.toList.drop (skipN s.data.toList) = b :: r) (hb : b ≠ 59) : Calls Tryz.prog 171 #[.string s] w (ParamR s.data.toList w) := by
  have HP := Lib.hid (parF_bad h hb)
  have HK := Lib.hid (rskip_any s hs)
  have hk := skipN_le s.data.toList
  obtain ⟨k, hkk⟩ : ∃ k, k = skipN s.data.toList := ⟨_, rfl⟩
  rw [← hkk] at HK hk h
  have hl : s.data.toList.length = s.size := by simp
  obtain ⟨S1, hS1, hz1, hsl1⟩ := cut_from s k (by omega)
  obtain ⟨z0, ix0, _⟩ := prmS (s := s) (hS1.trans h)
  have e0 : ((S1.size : Int) == 0) = false := by rw [beq_eq_false_iff_ne]; omega
  obtain ⟨e1, e2⟩ := u8_ne (n := 59) (by decide) hb
  obtain ⟨x, hx⟩ : ∃ x : Int, x = (b.toNat : Int) := ⟨_, rfl⟩
  rw [← hx] at ix0 e1 e2
  have KB := Lib.hid (Blk.new w #[.string ⟨#[]⟩, .string ⟨#[]⟩] 181)
  have HB := Lib.hid ((Below.refl w.heap.size w).alloc (Nat.le_refl _) (.cells #[.string ⟨#[]⟩, .string ⟨#[]⟩] 181))
  have q0 := KB.out.froz 0
  have q1 := KB.out.froz 1
  have q2 := KB.out.cell 0
  have q3 := KB.out.cell 1
  simp at q2 q3
  clear h hkk hl hS1 hz1 hk z0 hx hb
  go_enter Tryz.func171, Tryz.ntmps171
  go_wp2_with (go_at_call 200; refine (HK.out _).mono ?_; rintro e1 w1 ⟨rfl, rfl⟩)
  refine bodyPost_ret (results_att Tryz.results171 _ _ _ _ rfl (run_loadVar_row _ _ _ _ _ _ _ (Blk.new w #[.string ⟨#[]⟩, .string ⟨#[]⟩] 181) Tryz.underlying181 rfl (by kernel_rfl))) rfl ?_
  refine ⟨⟨#[]⟩, ⟨#[]⟩, ⟨#[]⟩, ?_, (fun m hm => by rw [HP.out] at hm; cases hm), HB.out⟩
  rw [HP.out]
  rfl
end Go.Proofs.YtcpjkemjpgggcaaGreatDoor
-- RfD
namespace Go.Proofs.YtcpjkemjpgggcaaGreatDoor
open Go.RowKit
def bhI (at_ : Nat) : Option Nat → Int
  | none => -1
  | some n => ((at_ + 1 + n : Nat) : Int)
def xq : Sc := ⟨true, false, 0⟩
def xD (d : Nat) : Sc := ⟨false, false, d⟩
theorem u8_int {c : UInt8} {n : Nat} (hn : n < 256) : (c.toNat : Int) = n ↔ c = UInt8.ofNat n := by
  constructor
  · intro h
    exact UInt8.toNat_inj.1 (by rw [UInt8.toNat_ofNat_of_lt' (by simpa using hn)]; omega)
  · intro h
    rw [h, UInt8.toNat_ofNat_of_lt' (by simpa using hn)]
theorem see_34 : scz.see ((34 : UInt8).toNat : Int) = xq := by rfl
theorem see_40 : scz.see ((40 : UInt8).toNat : Int) = xD 1 := by rfl
theorem bq_34 (l : List UInt8) : behL xq (34 :: l) = some 1 := by rw [behL, if_pos (by decide)]
theorem bq_92e : behL xq [92] = none := by decide
theorem bq_92 (c : UInt8) (r : List UInt8) : behL xq (92 :: c :: r) = (behL xq r).map (· + 2) := by
  rw [behL, if_neg (by decide), behL, show (xq.see ((92 : UInt8).toNat : Int)) = ⟨true, true, 0⟩ from by rfl]
  have e : (⟨true, true, 0⟩ : Sc).see (c.toNat : Int) = xq := rfl
  rw [e, if_neg (by decide), Option.map_map]
  rfl
theorem bq_o {c : UInt8} (h1 : c ≠ 34) (h2 : c ≠ 92) (l : List UInt8) : behL xq (c :: l) = (behL xq l).map (· + 1) := by
  have e1 : ¬ (c.toNat : Int) = 92 := fun h => h2 ((u8_int (n := 92) (by decide)).1 h)
  have e2 : ¬ (c.toNat : Int) = 34 := fun h => h1 ((u8_int (n := 34) (by decide)).1 h)
  have e : xq.see (c.toNat : Int) = xq := by
    unfold Sc.see xq
    rw [if_neg (by decide), if_neg e1, if_pos rfl, decide_eq_true e2]
  rw [behL, e, if_neg (by decide)]
theorem bd_nil (x : Sc) : behL x [] = none := by rw [behL]
theorem bd_92e {d : Nat} (hd : 1 ≤ d) : behL (xD d) [92] = none := by
  rw [behL, show (xD d).see ((92 : UInt8).toNat : Int) = ⟨false, true, d⟩ from by unfold Sc.see xD; simp; omega, if_neg (by unfold Sc.closed; simp), bd_nil]
  rfl
theorem bd_92 {d : Nat} (hd : 1 ≤ d) (c : UInt8) (r : List UInt8) : behL (xD d) (92 :: c :: r) = (behL (xD d) r).map (· + 2) := by
  rw [behL, show (xD d).see ((92 : UInt8).toNat : Int) = ⟨false, true, d⟩ from by unfold Sc.see xD; simp; omega, if_neg (by unfold Sc.closed; simp), behL]
  have e : (⟨false, true, d⟩ : Sc).see (c.toNat : Int) = xD d := rfl
  rw [e, if_neg (by unfold Sc.closed xD; simp; omega), Option.map_map]
  rfl
theorem bd_40 {d : Nat} (l : List UInt8) : behL (xD d) (40 :: l) = (behL (xD (d + 1)) l).map (· + 1) := by
  rw [behL, show (xD d).see ((40 : UInt8).toNat : Int) = xD (d + 1) from by unfold Sc.see xD; simp, if_neg (by unfold Sc.closed xD; simp)]
theorem bd_41 {d : Nat} (hd : 1 ≤ d) (l : List UInt8) : behL (xD d) (41 :: l) = if d = 1 then some 1 else (behL (xD (d - 1)) l).map (· + 1) := by
  rw [behL, show (xD d).see ((41 : UInt8).toNat : Int) = xD (d - 1) from by unfold Sc.see xD; simp; omega]
  by_cases h : d = 1
  · rw [if_pos h, if_pos (by rw [h]; decide)]
  · rw [if_neg h, if_neg (by unfold Sc.closed xD; simp; omega)]
theorem bd_o {d : Nat} (hd : 1 ≤ d) {c : UInt8} (h1 : c ≠ 92) (h2 : c ≠ 40) (h3 : c ≠ 41) (l : List UInt8) : behL (xD d) (c :: l) = (behL (xD d) l).map (· + 1) := by
  have e1 : ¬ (c.toNat : Int) = 92 := fun h => h1 ((u8_int (n := 92) (by decide)).1 h)
  have e2 : ¬ (c.toNat : Int) = 40 := fun h => h2 ((u8_int (n := 40) (by decide)).1 h)
  have e3 : ¬ (c.toNat : Int) = 41 := fun h => h3 ((u8_int (n := 41) (by decide)).1 h)
  have e : (xD d).see (c.toNat : Int) = xD d := by
    unfold Sc.see xD
    rw [if_neg (by simp), if_neg e1, if_neg (by simp), if_neg e2, if_pos (show 0 < d from hd), if_neg e3]
  rw [behL, e, if_neg (by unfold Sc.closed xD; simp; omega)]
theorem map_add {A B : Option Nat} {a b c : Nat} (h : A = (B.map (· + a)).map (· + b)) (hc : c = a + b) : A = B.map (· + c) := by
  rw [h, Option.map_map, hc]
  congr 1
  funext x
  simp
  omega
set_option maxRecDepth 100000 in
set_option maxHeartbeats 8000000 in
theorem rbehind_q (s : ByteArray) (hs : s.size ≤ 1000000) (a : Nat) (ha : a < s.size) {r : List UInt8} (hd : s.data.toList.drop a = 34 :: r) {A : Option Nat} (hA : A = behL xq r) (w : World) :
    Calls Tryz.prog 169 #[.string s, .int .i64 (a : Int)] w fun e w' => e = .returned (.int .i64 (bhI a A)) ∧ w = w' := by
  have hsi : (s.size : Int) ≤ 1000000 := by omega
  have hsl : s.data.toList.length = s.size := by simp
  have hixa := index_bt s a ha
  obtain ⟨c0, hc0, hd0⟩ := bt_drop s a ha
  rw [hd] at hd0
  have h34 : bt s a = 34 := by
    have : (34 : UInt8) = c0 := by injection hd0
    rw [hc0, ← this]
    rfl
  have hr := drop_cons_eq hd
  have HX : Hid (bt s a = 34) := h34
  rw [h34] at hixa
  have HR := Lib.hid hr
  have HA := Lib.hid hA
  have HSL := Lib.hid hsl
  clear hc0 hd0 h34 hr hA hsl hd
  go_enter Tryz.func169, Tryz.ntmps169
  go_wp2_with fail
  go_loop [6, 7] (fun u6 u7 => ∃ k : Nat, a ≤ k ∧ k ≤ s.size + 1 ∧ u7 = .int .i64 k ∧ u6 = .int .i64 0 ∧ (k = a ∨ (a < k ∧ A = (behL xq (s.data.toList.drop k)).map (· + (k - (a + 1)))))) (fun _ u7 => s.size + 2 - (intOf u7).toNat)
  case atStart => exact ⟨a, Nat.le_refl _, by omega, rfl, rfl, Or.inl rfl⟩
  case round =>
    obtain ⟨k, hak, hk, rfl, rfl, hor⟩ := hrel
    have HO := Lib.hid hor
    clear hor
    by_cases hlt : k < s.size
    · have hk1 : decide ((k : Int) < (s.size : Int)) = true := decide_eq_true (by omega)
      have hix := index_bt s k hlt
      obtain ⟨c, hc, hdr⟩ := bt_drop s k hlt
      obtain ⟨x, hx⟩ : ∃ x, x = bt s k := ⟨_, rfl⟩
      rw [← hx] at hix hc
      by_cases hka : k = a
      · have hx34 : x = 34 := by rw [hx, hka]; exact HX.out
        subst hx34
        have d1 : decide ((a : Int) < (k : Int)) = false := decide_eq_false (by omega)
        have d1n : decide (a < k) = false := decide_eq_false (by omega)
        have HN : Hid (A = (behL xq (s.data.toList.drop (k + 1))).map (· + (k + 1 - (a + 1)))) := by
          show A = _
          rw [HA.out, HR.out, hka, Nat.sub_self]
          simp
        clear hx hc hdr hka
        go_wp2_with fail
        go_round
        case rel => exact ⟨k + 1, by omega, by omega, by go_num, rfl, Or.inr ⟨by omega, HN.out⟩⟩
        case measure => simp [intOf]; omega
      · have hak2 : a < k := by omega
        have d1 : decide ((a : Int) < (k : Int)) = true := decide_eq_true (by omega)
        have d1n : decide (a < k) = true := decide_eq_true hak2
        have HQ : Hid (A = (behL xq (c :: s.data.toList.drop (k + 1))).map (· + (k - (a + 1)))) := by
          show A = _
          rcases HO.out with h | ⟨_, h⟩
          · exact absurd h hka
          · rw [h, hdr]
        clear hdr hka
        by_cases h92 : x = 92
        · have hc92 : c = 92 := (u8_int (n := 92) (by decide)).1 (by omega)
          subst h92
          by_cases hend : k + 1 = s.size
          · have HN : Hid (A = none) := by
              show A = _
              rw [HQ.out, hc92, hend, List.drop_of_length_le (by have := HSL.out; omega), bq_92e]
              rfl
            clear hx hc hc92
            go_wp2_with fail
            go_round
            case rel => exact ⟨k + 2, by omega, by omega, by go_num, rfl, Or.inr ⟨by omega, by rw [HN.out, List.drop_of_length_le (by have := HSL.out; omega), bd_nil]; rfl⟩⟩
            case measure => simp [intOf]; omega
          · obtain ⟨e, he, hdr2⟩ := bt_drop s (k + 1) (by omega)
            have HN : Hid (A = (behL xq (s.data.toList.drop (k + 2))).map (· + (k + 2 - (a + 1)))) := by
              show A = _
              have h := HQ.out
              rw [hc92, hdr2, bq_92] at h
              exact map_add h (by omega)
            clear hx hc hc92 he hdr2
            go_wp2_with fail
            go_round
            case rel => exact ⟨k + 2, by omega, by omega, by go_num, rfl, Or.inr ⟨by omega, HN.out⟩⟩
            case measure => simp [intOf]; omega
        · have x92 : (x == 92) = false := by rw [beq_eq_false_iff_ne]; exact h92
          by_cases h34 : x = 34
          · have hc34 : c = 34 := (u8_int (n := 34) (by decide)).1 (by omega)
            subst h34
            have HN : Hid (A = some (1 + (k - (a + 1)))) := by
              show A = _
              rw [HQ.out, hc34, bq_34]
              rfl
            clear hx hc hc34 h92
            go_wp2_with fail
            go_ret
            rw [HN.out]
            refine ⟨?_, rfl⟩
            show Ending.returned (.int .i64 ((k : Int) + 1)) = .returned (.int .i64 ((a + 1 + (1 + (k - (a + 1))) : Nat) : Int))
            rw [show ((a + 1 + (1 + (k - (a + 1))) : Nat) : Int) = (k : Int) + 1 by omega]
          · have x34 : (x == 34) = false := by rw [beq_eq_false_iff_ne]; exact h34
            have HN : Hid (A = (behL xq (s.data.toList.drop (k + 1))).map (· + (k + 1 - (a + 1)))) := by
              show A = _
              have h := HQ.out
              rw [bq_o (fun e => h34 (by rw [hc, e]; rfl)) (fun e => h92 (by rw [hc, e]; rfl))] at h
              exact map_add h (by omega)
            clear hx hc h92 h34
            go_wp2_with fail
            go_round
            case rel => exact ⟨k + 1, by omega, by omega, by go_num, rfl, Or.inr ⟨by omega, HN.out⟩⟩
            case measure => simp [intOf]; omega
    · have hk1 : decide ((k : Int) < (s.size : Int)) = false := decide_eq_false (by omega)
      have HN : Hid (A = none) := by
        show A = _
        rcases HO.out with h | ⟨_, h⟩
        · omega
        · rw [h, List.drop_of_length_le (by have := HSL.out; omega), bd_nil]; rfl
      go_wp2_with fail
      go_ret
      rw [HN.out]
      exact ⟨rfl, rfl⟩
set_option maxRecDepth 100000 in
set_option maxHeartbeats 8000000 in
theorem rbehind_d (s : ByteArray) (hs : s.size ≤ 1000000) (a : Nat) (ha : a < s.size) {r : List UInt8} (hd : s.data.toList.drop a = 40 :: r) {A : Option Nat} (hA : A = behL (xD 1) r) (w : World) :
    Calls Tryz.prog 169 #[.string s, .int .i64 (a : Int)] w fun e w' => e = .returned (.int .i64 (bhI a A)) ∧ w = w' := by
  have hsi : (s.size : Int) ≤ 1000000 := by omega
  have hsl : s.data.toList.length = s.size := by simp
  have hixa := index_bt s a ha
  obtain ⟨c0, hc0, hd0⟩ := bt_drop s a ha
  rw [hd] at hd0
  have h40 : bt s a = 40 := by
    have : (40 : UInt8) = c0 := by injection hd0
    rw [hc0, ← this]
    rfl
  have hr := drop_cons_eq hd
  have HX : Hid (bt s a = 40) := h40
  rw [h40] at hixa
  have HR := Lib.hid hr
  have HA := Lib.hid hA
  have HSL := Lib.hid hsl
  clear hc0 hd0 h40 hr hA hsl hd
  go_enter Tryz.func169, Tryz.ntmps169
  go_wp2_with fail
  go_loop [6, 7] (fun u6 u7 => ∃ k d : Nat, a ≤ k ∧ k ≤ s.size + 1 ∧ d ≤ k ∧ u7 = .int .i64 k ∧ u6 = .int .i64 d ∧ ((k = a ∧ d = 0) ∨ (a < k ∧ 1 ≤ d ∧ A = (behL (xD d) (s.data.toList.drop k)).map (· + (k - (a + 1)))))) (fun _ u7 => s.size + 2 - (intOf u7).toNat)
  case atStart => exact ⟨a, 0, Nat.le_refl _, by omega, Nat.zero_le _, rfl, rfl, Or.inl ⟨rfl, rfl⟩⟩
  case round =>
    obtain ⟨k, d, hak, hk, hdk, rfl, rfl, hor⟩ := hrel
    have HO := Lib.hid hor
    clear hor
    by_cases hlt : k < s.size
    · have hk1 : decide ((k : Int) < (s.size : Int)) = true := decide_eq_true (by omega)
      have hix := index_bt s k hlt
      obtain ⟨c, hc, hdr⟩ := bt_drop s k hlt
      obtain ⟨x, hx⟩ : ∃ x, x = bt s k := ⟨_, rfl⟩
      rw [← hx] at hix hc
      by_cases hka : k = a
      · have hx40 : x = 40 := by rw [hx, hka]; exact HX.out
        subst hx40
        have hd0 : d = 0 := by
          rcases HO.out with h | h
          · exact h.2
          · omega
        have HD0 := Lib.hid hd0
        have HN : Hid (A = (behL (xD (d + 1)) (s.data.toList.drop (k + 1))).map (· + (k + 1 - (a + 1)))) := by
          show A = _
          rw [HA.out, HR.out, hka, Nat.sub_self, hd0]
          simp
        clear hx hc hdr hka hd0
        go_wp2_with fail
        go_round
        case rel => exact ⟨k + 1, d + 1, by omega, by omega, by omega, by go_num, by go_num, Or.inr ⟨by omega, by omega, HN.out⟩⟩
        case measure => simp [intOf]; omega
      · have hak2 : a < k := by omega
        have hd1 : 1 ≤ d := by
          rcases HO.out with h | h
          · exact absurd h.1 hka
          · exact h.2.1
        have HQ : Hid (A = (behL (xD d) (c :: s.data.toList.drop (k + 1))).map (· + (k - (a + 1)))) := by
          show A = _
          rcases HO.out with h | ⟨_, _, h⟩
          · exact absurd h.1 hka
          · rw [h, hdr]
        clear hdr hka
        by_cases h92 : x = 92
        · have hc92 : c = 92 := (u8_int (n := 92) (by decide)).1 (by omega)
          subst h92
          by_cases hend : k + 1 = s.size
          · have HN : Hid (A = none) := by
              show A = _
              rw [HQ.out, hc92, hend, List.drop_of_length_le (by have := HSL.out; omega), bd_92e hd1]
              rfl
            clear hx hc hc92
            go_wp2_with fail
            go_round
            case rel => exact ⟨k + 2, d, by omega, by omega, by omega, by go_num, rfl, Or.inr ⟨by omega, hd1, by rw [HN.out, List.drop_of_length_le (by have := HSL.out; omega), bd_nil]; rfl⟩⟩
            case measure => simp [intOf]; omega
          · obtain ⟨e, he, hdr2⟩ := bt_drop s (k + 1) (by omega)
            have HN : Hid (A = (behL (xD d) (s.data.toList.drop (k + 2))).map (· + (k + 2 - (a + 1)))) := by
              show A = _
              have h := HQ.out
              rw [hc92, hdr2, bd_92 hd1] at h
              exact map_add h (by omega)
            clear hx hc hc92 he hdr2
            go_wp2_with fail
            go_round
            case rel => exact ⟨k + 2, d, by omega, by omega, by omega, by go_num, rfl, Or.inr ⟨by omega, hd1, HN.out⟩⟩
            case measure => simp [intOf]; omega
        · have x92 : (x == 92) = false := by rw [beq_eq_false_iff_ne]; exact h92
          by_cases h40 : x = 40
          · have hc40 : c = 40 := (u8_int (n := 40) (by decide)).1 (by omega)
            subst h40
            have HN : Hid (A = (behL (xD (d + 1)) (s.data.toList.drop (k + 1))).map (· + (k + 1 - (a + 1)))) := by
              show A = _
              have h := HQ.out
              rw [hc40, bd_40] at h
              exact map_add h (by omega)
            clear hx hc hc40 h92
            go_wp2_with fail
            go_round
            case rel => exact ⟨k + 1, d + 1, by omega, by omega, by omega, by go_num, by go_num, Or.inr ⟨by omega, by omega, HN.out⟩⟩
            case measure => simp [intOf]; omega
          · have x40 : (x == 40) = false := by rw [beq_eq_false_iff_ne]; exact h40
            by_cases h41 : x = 41
            · have hc41 : c = 41 := (u8_int (n := 41) (by decide)).1 (by omega)
              subst h41
              by_cases hd2 : d = 1
              · have HN : Hid (A = some (1 + (k - (a + 1)))) := by
                  show A = _
                  rw [HQ.out, hc41, bd_41 hd1, if_pos hd2]
                  rfl
                have e1 : ((d : Int) - 1 == 0) = true := by rw [beq_iff_eq]; omega
                clear hx hc hc41 h92 h40
                go_wp2_with fail
                go_ret
                rw [HN.out]
                refine ⟨?_, rfl⟩
                show Ending.returned (.int .i64 ((k : Int) + 1)) = .returned (.int .i64 ((a + 1 + (1 + (k - (a + 1))) : Nat) : Int))
                rw [show ((a + 1 + (1 + (k - (a + 1))) : Nat) : Int) = (k : Int) + 1 by omega]
              · have HN : Hid (A = (behL (xD (d - 1)) (s.data.toList.drop (k + 1))).map (· + (k + 1 - (a + 1)))) := by
                  show A = _
                  have h := HQ.out
                  rw [hc41, bd_41 hd1, if_neg hd2] at h
                  exact map_add h (by omega)
                have e1 : ((d : Int) - 1 == 0) = false := by rw [beq_eq_false_iff_ne]; omega
                clear hx hc hc41 h92 h40
                go_wp2_with fail
                go_round
                case rel => exact ⟨k + 1, d - 1, by omega, by omega, by omega, by go_num, by rw [show ((d - 1 : Nat) : Int) = (d : Int) - 1 by omega], Or.inr ⟨by omega, by omega, HN.out⟩⟩
                case measure => simp [intOf]; omega
            · have x41 : (x == 41) = false := by rw [beq_eq_false_iff_ne]; exact h41
              have HN : Hid (A = (behL (xD d) (s.data.toList.drop (k + 1))).map (· + (k + 1 - (a + 1)))) := by
                show A = _
                have h := HQ.out
                rw [bd_o hd1 (fun e => h92 (by rw [hc, e]; rfl)) (fun e => h40 (by rw [hc, e]; rfl)) (fun e => h41 (by rw [hc, e]; rfl))] at h
                exact map_add h (by omega)
              clear hx hc h92 h40 h41
              go_wp2_with fail
              go_round
              case rel => exact ⟨k + 1, d, by omega, by omega, by omega, by go_num, rfl, Or.inr ⟨by omega, hd1, HN.out⟩⟩
              case measure => simp [intOf]; omega
    · have hk1 : decide ((k : Int) < (s.size : Int)) = false := decide_eq_false (by omega)
      have HN : Hid (A = none) := by
        show A = _
        rcases HO.out with h | ⟨_, _, h⟩
        · omega
        · rw [h, List.drop_of_length_le (by have := HSL.out; omega), bd_nil]; rfl
      go_wp2_with fail
      go_ret
      rw [HN.out]
      exact ⟨rfl, rfl⟩
end Go.Proofs.YtcpjkemjpgggcaaGreatDoor
-- RfE
namespace Go.Proofs.YtcpjkemjpgggcaaGreatDoor
open Go.RowKit
theorem rcs_nil (a : List UInt8) : rcs a [] = some [a] := by rw [rcs]
theorem rcs_open {c : UInt8} (h : c = 34 ∨ c = 40) (a t : List UInt8) : rcs a (c :: t) = match behL (scz.see c.toNat) t with | none => none | some n => rcs (a ++ c :: t.take n) (t.drop n) := by
  rw [rcs, if_pos h]
  cases behL (scz.see c.toNat) t <;> rfl
theorem rcs_comma (a t : List UInt8) : rcs a (44 :: t) = (rcs [] t).map (a :: ·) := by rw [rcs, if_neg (by decide), if_pos rfl]
theorem rcs_one {c : UInt8} (h1 : c ≠ 34) (h2 : c ≠ 40) (h3 : c ≠ 44) (a t : List UInt8) : rcs a (c :: t) = rcs (a ++ [c]) t := by rw [rcs, if_neg (by rintro (h | h) <;> contradiction), if_neg h3]
def dat (D : List ByteArray) : List (List UInt8) := D.map (·.data.toList)
theorem dat_snoc (D : List ByteArray) (x : ByteArray) : dat (D ++ [x]) = dat D ++ [x.data.toList] := by unfold dat; rw [List.map_append]; rfl
theorem map_app {A : Option (List (List UInt8))} {B : Option (List (List UInt8))} {p : List (List UInt8)} {x : List UInt8} (h : A = (B.map (x :: ·)).map (p ++ ·)) : A = B.map ((p ++ [x]) ++ ·) := by
  rw [h, Option.map_map]
  congr 1
  funext l
  simp
/-- Behind, at a sign that opens. -/
theorem rbehind_any (s : ByteArray) (hs : s.size ≤ 1000000) (a : Nat) (ha : a < s.size) {c : UInt8} {r : List UInt8} (hc : c = 34 ∨ c = 40) (hd : s.data.toList.drop a = c :: r) {A : Option Nat} (hA : A = behL (scz.see c.toNat) r) (w : World) :
    Calls Tryz.prog 169 #[.string s, .int .i64 (a : Int)] w fun e w' => e = .returned (.int .i64 (bhI a A)) ∧ w = w' := by
  rcases hc with rfl | rfl
  · exact rbehind_q s hs a ha hd (by rw [hA, see_34]) w
  · exact rbehind_d s hs a ha hd (by rw [hA, see_40]) w
theorem someL_take (D : List ByteArray) (k : Nat) (h : k < D.length) : someL (dat (D.take (k + 1))) = someL (dat (D.take k)) ++ if (trimB D[k]).toList.isEmpty = true then [] else [trimB D[k]] := by
  rw [List.take_succ_eq_append_getElem h, dat_snoc, someL_append, someL_one]
set_option maxRecDepth 100000 in
set_option maxHeartbeats 8000000 in
theorem rsplit_any (s : ByteArray) (hs : s.size ≤ 900000) (w : World) :
    Calls Tryz.prog 128 #[.string s] w fun e w' => ∃ v, e = .returned (.tuple #[v, .bool (splitP s).isSome]) ∧ OwnS w' w.heap.size v ((splitP s).getD []) ∧ Below w.heap.size w w' := by
  have hsi : (s.size : Int) ≤ 900000 := by omega
  have hsl : s.data.toList.length = s.size := by simp
  have HSL := Lib.hid hsl
  have HSP := Lib.hid (splitP_rcs s)
  have HO0 := Lib.hid (OwnS.empty w)
  have HB0 := Lib.hid ((Below.refl w.heap.size w).alloc (Nat.le_refl _) (.cells #[] 9))
  obtain ⟨R, hR⟩ : ∃ R, R = rcs [] s.data.toList := ⟨_, rfl⟩
  rw [← hR] at HSP
  have HR := Lib.hid hR
  clear hsl hR
  go_enter Tryz.func128, Tryz.ntmps128
  go_wp2_with fail
  go_loopw [4, 5, 6] (fun u4 u5 u6 wr => ∃ (k f : Nat) (D : List ByteArray), f ≤ k ∧ k ≤ s.size ∧ D.length ≤ f ∧ (∀ x ∈ D, x.size ≤ s.size) ∧ u5 = .int .i64 f ∧ u6 = .int .i64 k ∧ OwnS wr w.heap.size u4 D ∧ R = (rcs (s.extract f k).data.toList (s.data.toList.drop k)).map (dat D ++ ·) ∧ Below w.heap.size w wr) (fun _ _ u6 _ => s.size - (intOf u6).toNat)
  case atStart =>
    refine ⟨0, 0, [], Nat.le_refl _, Nat.zero_le _, Nat.le_refl _, (fun x hx => by cases hx), rfl, rfl, HO0.out, ?_, HB0.out⟩
    rw [HR.out, List.drop_zero, ext_self]
    show _ = (rcs [] s.data.toList).map ([] ++ ·)
    simp
  case round =>
    obtain ⟨k, f, D, hfk, hk, hDf, hDs, rfl, rfl, ho, hrr, hb⟩ := hrel
    have HDS := Lib.hid hDs
    clear hDs
    have HO := Lib.hid ho
    have HB := Lib.hid hb
    have HRR := Lib.hid hrr
    have HZ := Lib.hid hb.size
    have HDL : Hid (D.length ≤ 1000000) := by show _ ≤ _; omega
    have HDF := Lib.hid hDf
    clear ho hb hrr hDf
    by_cases hlt : k < s.size
    · have hk1 : decide ((k : Int) < (s.size : Int)) = true := decide_eq_true (by omega)
      have hix := index_bt s k hlt
      obtain ⟨c, hc, hdr⟩ := bt_drop s k hlt
      have hcg : c = s[k]'hlt := by
        have := bt_get s k hlt
        apply UInt8.toNat_inj.1
        omega
      obtain ⟨x, hx⟩ : ∃ x, x = bt s k := ⟨_, rfl⟩
      rw [← hx] at hix hc
      have HQ : Hid (R = (rcs (s.extract f k).data.toList (c :: s.data.toList.drop (k + 1))).map (dat D ++ ·)) := by show R = _; rw [HRR.out, hdr]
      have hES := ext_snoc hfk hlt
      rw [← hcg] at hES
      have HES := Lib.hid hES
      have HDR := Lib.hid hdr
      clear hcg hES hdr
      by_cases hop : x = 34 ∨ x = 40
      · have hco : c = 34 ∨ c = 40 := by
          rcases hop with h | h
          · exact Or.inl ((u8_int (n := 34) (by decide)).1 (by omega))
          · exact Or.inr ((u8_int (n := 40) (by decide)).1 (by omega))
        obtain ⟨A, hA⟩ : ∃ A, A = behL (scz.see c.toNat) (s.data.toList.drop (k + 1)) := ⟨_, rfl⟩
        have HBH := Lib.hid (rbehind_any s (by omega) k hlt hco HDR.out hA wr)
        have hq := HQ.out
        rw [rcs_open hco, ← hA] at hq
        cases A with
        | none =>
          have HN : Hid (splitP s = none) := by
            show _ = _
            rw [HSP.out, hq]
            rfl
          have HBH2 : Hid (Calls Tryz.prog 169 #[.string s, .int .i64 (k : Int)] wr fun e w' => e = .returned (.int .i64 (-1)) ∧ wr = w') := HBH.out
          clear hq hA hc hx hco HBH
          rcases hop with rfl | rfl
          all_goals
            go_wp2_with (go_at_call 169; refine HBH2.out.mono ?_; rintro e' w' ⟨rfl, rfl⟩)
            go_ret2
            rw [HN.out]
            exact ⟨_, rfl, OwnS.start _ _, HB.out⟩
        | some n =>
          have hn := behL_le _ _ _ hA.symm
          rw [List.length_drop] at hn
          have hn2 : k + 1 + n ≤ s.size := by have := HSL.out; omega
          have HN : Hid (R = (rcs (s.extract f (k + 1 + n)).data.toList (s.data.toList.drop (k + 1 + n))).map (dat D ++ ·)) := by
            show R = _
            have e1 : (s.extract f (k + 1 + n)).data.toList = (s.extract f k).data.toList ++ c :: (s.data.toList.drop (k + 1)).take n := by
              rw [Lib.extract_data, Lib.extract_data, show k + 1 + n - f = (k - f) + (1 + n) by omega, List.take_add, List.drop_drop, show f + (k - f) = k by omega, HDR.out, Nat.add_comm 1 n, List.take_succ_cons]
            have hq2 : R = (rcs ((s.extract f k).data.toList ++ c :: (s.data.toList.drop (k + 1)).take n) ((s.data.toList.drop (k + 1)).drop n)).map (dat D ++ ·) := hq
            rw [hq2, e1, List.drop_drop]
          have HBH2 : Hid (Calls Tryz.prog 169 #[.string s, .int .i64 (k : Int)] wr fun e w' => e = .returned (.int .i64 ((k + 1 + n : Nat) : Int)) ∧ wr = w') := HBH.out
          obtain ⟨m, hm⟩ : ∃ m, m = k + 1 + n := ⟨_, rfl⟩
          rw [← hm] at HN HBH2 hn2
          have hkm : k < m := by omega
          have d0 : decide ((m : Int) < 0) = false := decide_eq_false (by omega)
          clear hq hA hc hx hco hn hm HBH
          rcases hop with rfl | rfl
          all_goals
            go_wp2_with (go_at_call 169; refine HBH2.out.mono ?_; rintro e' w' ⟨rfl, rfl⟩)
            go_roundw
            case rel => exact ⟨m, f, D, by omega, hn2, HDF.out, HDS.out, rfl, rfl, HO.out, HN.out, HB.out⟩
            case measure => simp [intOf]; omega
      · have x34 : (x == 34) = false := by rw [beq_eq_false_iff_ne]; exact fun h => hop (Or.inl h)
        have x40 : (x == 40) = false := by rw [beq_eq_false_iff_ne]; exact fun h => hop (Or.inr h)
        have c34 : c ≠ 34 := fun e => hop (Or.inl (by rw [hc, e]; rfl))
        have c40 : c ≠ 40 := fun e => hop (Or.inr (by rw [hc, e]; rfl))
        by_cases h44 : x = 44
        · have hc44 : c = 44 := (u8_int (n := 44) (by decide)).1 (by omega)
          subst h44
          obtain ⟨X, hX⟩ : ∃ X, X = s.extract f k := ⟨_, rfl⟩
          have hslc : ∀ W : World, (Instr.slice 9 (.string s) (some (.int .i64 (f : Int))) (some (.int .i64 (k : Int))) none).run Tryz.prog W = .ok (.string X) W := fun W => by
            rw [run_slice_string W 9 s .i64 .i64 (f : Int) (k : Int) Tryz.underlying9 (by omega) (by omega) (by omega), Int.toNat_natCast, Int.toNat_natCast, hX]
          have HN : Hid (R = (rcs (s.extract (k + 1) (k + 1)).data.toList (s.data.toList.drop (k + 1))).map (dat (D ++ [X]) ++ ·)) := by
            show R = _
            have h := HQ.out
            rw [hc44, rcs_comma] at h
            rw [ext_self, dat_snoc, hX]
            exact map_app h
          have HDS2 : Hid (∀ x ∈ D ++ [X], x.size ≤ s.size) := fun x hx => by
            rcases List.mem_append.1 hx with h | h
            · exact HDS.out x h
            · rw [List.mem_singleton.1 h, hX]; simp; try omega
          clear hc hx hc44 hop c34 c40 hX
          go_wp2_with (at_builtin; refine wpList_push_str rfl _ _ rfl rfl HO.out X rfl HDL.out HZ.out ?_; intro p4 c4 w4 ho4 _ hb4; have HO4 := Lib.hid ho4; have HB4 := Lib.hid (HB.out.trans hb4); clear ho4 hb4)
          go_roundw
          case rel => exact ⟨k + 1, k + 1, D ++ [X], Nat.le_refl _, hlt, by rw [List.length_append]; have := HDF.out; simp; omega, HDS2.out, by go_num, by go_num, HO4.out, HN.out, HB4.out⟩
          case measure => simp [intOf]; omega
        · have x44 : (x == 44) = false := by rw [beq_eq_false_iff_ne]; exact h44
          have HN : Hid (R = (rcs (s.extract f (k + 1)).data.toList (s.data.toList.drop (k + 1))).map (dat D ++ ·)) := by
            show R = _
            rw [HQ.out, rcs_one c34 c40 (fun e => h44 (by rw [hc, e]; rfl)), HES.out]
          clear hc hx h44 hop c34 c40
          go_wp2_with fail
          go_roundw
          case rel => exact ⟨k + 1, f, D, by omega, hlt, HDF.out, HDS.out, rfl, by go_num, HO.out, HN.out, HB.out⟩
          case measure => simp [intOf]; omega
    · have hk1 : decide ((k : Int) < (s.size : Int)) = false := decide_eq_false (by omega)
      obtain ⟨X, hX⟩ : ∃ X, X = s.extract f s.size := ⟨_, rfl⟩
      have hslc : ∀ W : World, (Instr.slice 9 (.string s) (some (.int .i64 (f : Int))) none none).run Tryz.prog W = .ok (.string X) W := fun W => by
        rw [run_slice_string_l W 9 s Tryz.underlying9 .i64 (f : Int) (by omega) (by omega), Int.toNat_natCast, hX]
      have HSN : Hid (splitP s = some (someL (dat (D ++ [X])))) := by
        show _ = _
        have hks : k = s.size := by omega
        have h := HRR.out
        rw [hks, List.drop_of_length_le (by have := HSL.out; omega), rcs_nil] at h
        rw [HSP.out, h, dat_snoc, hX]
        rfl
      have HDS2 : Hid (∀ x ∈ D ++ [X], x.size ≤ s.size) := fun x hx => by
        rcases List.mem_append.1 hx with h | h
        · exact HDS.out x h
        · rw [List.mem_singleton.1 h, hX]; simp; try omega
      clear hX
      go_wp2_with (at_builtin; refine wpList_push_str rfl _ _ rfl rfl HO.out X rfl HDL.out HZ.out ?_; intro p4 c4 w4 ho4 _ hb4; have HO4 := Lib.hid ho4; have HB4 := Lib.hid (HB.out.trans hb4); clear ho4 hb4)
      obtain ⟨D2, hD2⟩ : ∃ D2, D2 = D ++ [X] := ⟨_, rfl⟩
      have hDl : D.length + 1 = D2.length := by rw [hD2]; simp
      obtain ⟨n, hn⟩ : ∃ n, n = D2.length := ⟨_, rfl⟩
      rw [← hD2] at HSN HO4 HDS2
      rw [hDl, ← hn] at HO4 ⊢
      have HN := Lib.hid hn
      have hn6 : n ≤ 1000001 := by have := HDL.out; omega
      have HS4 := Lib.hid HO4.out.strs
      have HE0 := Lib.hid (OwnS.empty w4)
      have HEB := Lib.hid ((Below.refl w4.heap.size w4).alloc (Nat.le_refl _) (.cells #[] 9))
      clear hDl hn hD2
      go_wp2_with fail
      go_loopw [7, 8] (fun u7 u8 wv => ∃ k : Nat, k ≤ n ∧ u8 = .int .i64 k ∧ OwnS wv w4.heap.size u7 (someL (dat (D2.take k))) ∧ Below w4.heap.size w4 wv) (fun _ u8 _ => n - (intOf u8).toNat)
      case atStart => exact ⟨0, Nat.zero_le _, rfl, HE0.out, HEB.out⟩
      case round =>
        obtain ⟨k, hk, rfl, ho, hb⟩ := hrel
        have HOE := Lib.hid ho
        have HBE := Lib.hid hb
        have HZE := Lib.hid hb.size
        have HSE := Lib.hid (HS4.out.below hb)
        clear ho hb
        by_cases hlt : k < n
        · have hk1 : decide ((k : Int) < (n : Int)) = true := decide_eq_true (by omega)
          obtain ⟨p5, c5, hv5, hcell⟩ := HSE.out
          injection hv5 with e1 e2 e3
          subst e1 e3
          have hkD : k < D2.length := by rw [← HN.out]; exact hlt
          obtain ⟨b, off, hp, c0⟩ := hcell k hkD
          subst hp
          obtain ⟨y, hy⟩ : ∃ y, y = D2[k]'hkD := ⟨_, rfl⟩
          rw [← hy] at c0
          have hys : y.size ≤ 9223372036854775807 := by have := HDS2.out y (by rw [hy]; exact List.getElem_mem _); omega
          have HT := Lib.hid (fun W => rtrim_any y hys W)
          have HST := someL_take D2 k hkD
          rw [← hy] at HST
          have HLE : Hid ((someL (dat (D2.take k))).length ≤ 1000000) := by
            show _ ≤ _
            have h1 := someL_len (dat (D2.take k))
            have h2 : (dat (D2.take k)).length = k := by unfold dat; rw [List.length_map, List.length_take]; omega
            omega
          obtain ⟨T, hT⟩ : ∃ T, T = trimB y := ⟨_, rfl⟩
          rw [← hT] at HST HT
          have hk0 : (0 : Int) ≤ (k : Int) := by omega
          have hki : (k : Int) < (n : Int) := by omega
          cases hE : T.toList.isEmpty with
          | true =>
            rw [if_pos hE, List.append_nil] at HST
            have HSN2 := Lib.hid HST
            clear HST hy hT hcell e2 hkD hys
            go_wp2_with (go_at_call 109; refine (HT.out _).mono ?_; rintro e5 w5 ⟨rfl, rfl⟩)
            go_roundw
            case rel => exact ⟨k + 1, hlt, by go_num, by rw [HSN2.out]; exact HOE.out, HBE.out⟩
            case measure => simp [intOf]; omega
          | false =>
            rw [if_neg (by rw [hE]; decide)] at HST
            have HSN2 := Lib.hid HST
            clear HST hy hT hcell e2 hkD hys
            go_wp2_with (first
              | (go_at_call 109; refine (HT.out _).mono ?_; rintro e5 w5 ⟨rfl, rfl⟩)
              | (at_builtin; refine wpList_push_str rfl _ _ rfl rfl HOE.out T rfl HLE.out HZE.out ?_; intro p6 c6 w6 ho6 _ hb6; have HO6 := Lib.hid ho6; have HB6 := Lib.hid (HBE.out.trans hb6); clear ho6 hb6))
            go_roundw
            case rel => exact ⟨k + 1, hlt, by go_num, by rw [HSN2.out]; exact HO6.out, HB6.out⟩
            case measure => simp [intOf]; omega
        · have hk1 : decide ((k : Int) < (n : Int)) = false := decide_eq_false (by omega)
          have hkn : k = n := by omega
          have HF : Hid (OwnS wr w4.heap.size u7 (someL (dat D2))) := by
            have h := HOE.out
            rw [hkn, HN.out, List.take_length] at h
            exact h
          clear hkn
          go_wp2_with fail
          go_ret2
          rw [HSN.out]
          exact ⟨_, rfl, HF.out.lower HB4.out.size, HB4.out.trans (HBE.out.mono HB4.out.size)⟩
end Go.Proofs.YtcpjkemjpgggcaaGreatDoor
-- RfC2
namespace Go.Proofs.YtcpjkemjpgggcaaGreatDoor
open Go.RowKit
theorem u8_eq {b : UInt8} {n : Nat} (hn : n < 256) (h : b = UInt8.ofNat n) : (b.toNat : Int) = n := by
  rw [h, UInt8.toNat_ofNat_of_lt' (by simpa using hn)]
def RgS (w : World) (g pb : Nat) (nm v : Value) (V : World) : Prop := Blk V pb #[nm, v] 181 ∧ (∃ a b, Blk V g #[a, b] 181) ∧ Below w.heap.size w V
theorem alloc_ne {w w4 : World} {o : Obj} (hb : Below (w.alloc o).heap.size (w.alloc o) w4) : w4.heap.size ≠ w.heap.size := by
  have h2 := hb.size
  simp at h2
  omega
theorem parse_len {s : ByteArray} : s.data.toList.length = s.size := by simp
set_option maxRecDepth 100000 in
theorem rparam_tok0 (s : ByteArray) (hs : s.size ≤ 1000000) (w : World) {r : List UInt8} (h : s.data.toList.drop (skipN s.data.toList) = 59 :: r) (ht : tokN (r.drop (skipN r)) = 0) : Calls Tryz.prog 171 #[.string s] w (ParamR s.data.toList w) := by
  have HP := Lib.hid (parF_tok h ht)
  have HK1 := Lib.hid (rskip_any s hs)
  have hk1 := skipN_le s.data.toList
  obtain ⟨k1, hk1e⟩ : ∃ k, k = skipN s.data.toList := ⟨_, rfl⟩
  rw [← hk1e] at HK1 hk1 h
  have hl := parse_len (s := s)
  obtain ⟨S1, hS1, hz1, hsl1⟩ := cut_from s k1 (by omega)
  obtain ⟨z0, ix0, hd1⟩ := prmS (s := s) (hS1.trans h)
  have ix1 : ∀ W : World, (Instr.index 9 (.string S1) (.int .i64 0)).run Tryz.prog W = .ok (.int .u8 59) W := ix0
  have e0 : ((S1.size : Int) == 0) = false := by rw [beq_eq_false_iff_ne]; omega
  obtain ⟨S2, hS2, hz2, hsl2'⟩ := cut_from S1 1 (by omega)
  have hsl2 : ∀ W : World, (Instr.slice 9 (.string S1) (some (.int .i64 1)) none none).run Tryz.prog W = .ok (.string S2) W := hsl2'
  have hr : S2.data.toList = r := by rw [hS2, hd1]; rfl
  have HK2 := Lib.hid (rskip_any S2 (by omega))
  have hk2 := skipN_le S2.data.toList
  rw [hr] at HK2 hk2
  have hl2 := parse_len (s := S2)
  rw [hr] at hl2
  obtain ⟨k2, hk2e⟩ : ∃ k, k = skipN r := ⟨_, rfl⟩
  rw [← hk2e] at HK2 hk2 ht
  obtain ⟨S3, hS3, hz3, hsl3⟩ := cut_from S2 k2 (by omega)
  rw [hr] at hS3
  have HT3 := Lib.hid (rtoken04_any S3 (by omega))
  rw [hS3] at HT3
  obtain ⟨t, hte⟩ : ∃ k, k = tokN (r.drop k2) := ⟨_, rfl⟩
  rw [← hte] at HT3 ht
  have et : ((t : Int) == 0) = true := by rw [beq_iff_eq]; omega
  have KB := Lib.hid (Blk.new w #[.string ⟨#[]⟩, .string ⟨#[]⟩] 181)
  have HB := Lib.hid ((Below.refl w.heap.size w).alloc (Nat.le_refl _) (.cells #[.string ⟨#[]⟩, .string ⟨#[]⟩] 181))
  have q0 := KB.out.froz 0
  have q1 := KB.out.froz 1
  have q2 := KB.out.cell 0
  have q3 := KB.out.cell 1
  simp at q2 q3
  clear h ht hk1 hk1e hl hS1 hz1 z0 ix0 hd1 hS2 hz2 hsl2' hr hk2 hl2 hk2e hS3 hz3 hte
  go_enter Tryz.func171, Tryz.ntmps171
  go_wp2_with fail
  refine (HK1.out _).mono ?_
  rintro x1 w1 ⟨rfl, rfl⟩
  go_wp2_with fail
  refine (HK2.out _).mono ?_
  rintro x2 w2 ⟨rfl, rfl⟩
  go_wp2_with fail
  refine (HT3.out _).mono ?_
  rintro x3 w3 ⟨rfl, rfl⟩
  go_wp2_with fail
  refine bodyPost_ret (results_att Tryz.results171 _ _ _ _ rfl (run_loadVar_row _ _ _ _ _ _ _ (Blk.new w #[.string ⟨#[]⟩, .string ⟨#[]⟩] 181) Tryz.underlying181 rfl (by kernel_rfl))) rfl ?_
  refine ⟨⟨#[]⟩, ⟨#[]⟩, ⟨#[]⟩, ?_, (fun m hm => by rw [HP.out] at hm; cases hm), HB.out⟩
  rw [HP.out]
  rfl
set_option maxRecDepth 100000 in
set_option maxHeartbeats 1000000 in
theorem rparam_endA (s : ByteArray) (hs : s.size ≤ 1000000) (w : World) {r : List UInt8} (h : s.data.toList.drop (skipN s.data.toList) = 59 :: r) (ht : tokN (r.drop (skipN r)) ≠ 0) (hv : ((r.drop (skipN r)).drop (tokN (r.drop (skipN r)))).drop (skipN ((r.drop (skipN r)).drop (tokN (r.drop (skipN r))))) = []) : Calls Tryz.prog 171 #[.string s] w (ParamR s.data.toList w) := by
  have hpf := parF_some h ht
  have hve := valF_end (Or.inl hv)
  rw [hve] at hpf
  have HK1 := Lib.hid (rskip_any s hs)
  have hk1 := skipN_le s.data.toList
  obtain ⟨k1, hk1e⟩ : ∃ k, k = skipN s.data.toList := ⟨_, rfl⟩
  rw [← hk1e] at HK1 hk1 h
  have hl := parse_len (s := s)
  obtain ⟨S1, hS1, hz1, hsl1⟩ := cut_from s k1 (by omega)
  obtain ⟨z0, ix0, hd1⟩ := prmS (s := s) (hS1.trans h)
  have ix1 : ∀ W : World, (Instr.index 9 (.string S1) (.int .i64 0)).run Tryz.prog W = .ok (.int .u8 59) W := ix0
  have e0 : ((S1.size : Int) == 0) = false := by rw [beq_eq_false_iff_ne]; omega
  obtain ⟨S2, hS2, hz2, hsl2'⟩ := cut_from S1 1 (by omega)
  have hsl2 : ∀ W : World, (Instr.slice 9 (.string S1) (some (.int .i64 1)) none none).run Tryz.prog W = .ok (.string S2) W := hsl2'
  have hr : S2.data.toList = r := by rw [hS2, hd1]; rfl
  have HK2 := Lib.hid (rskip_any S2 (by omega))
  have hk2 := skipN_le S2.data.toList
  rw [hr] at HK2 hk2
  have hl2 := parse_len (s := S2)
  rw [hr] at hl2
  obtain ⟨k2, hk2e⟩ : ∃ k, k = skipN r := ⟨_, rfl⟩
  rw [← hk2e] at HK2 hk2 ht
  obtain ⟨S3, hS3, hz3, hsl3⟩ := cut_from S2 k2 (by omega)
  rw [hr] at hS3
  have HT3 := Lib.hid (rtoken04_any S3 (by omega))
  rw [hS3] at HT3
  obtain ⟨t, hte⟩ : ∃ k, k = tokN (r.drop k2) := ⟨_, rfl⟩
  rw [← hte] at HT3 ht
  rw [← hk1e, ← hk2e, ← hte] at hpf
  rw [← hk2e, ← hte] at hv
  have htl := tokN_le (r.drop k2)
  rw [← hte, List.length_drop] at htl
  have et : ((t : Int) == 0) = false := by rw [beq_eq_false_iff_ne]; omega
  obtain ⟨NM, hNM, hzN, hsl4⟩ := cut_to S3 t (by omega)
  have HLW := Lib.hid (rlower_any NM (by omega))
  obtain ⟨nm, hnm⟩ : ∃ x, x = lowB NM := ⟨_, rfl⟩
  rw [← hnm] at HLW
  obtain ⟨S4, hS4, hz4, hsl5⟩ := cut_from S3 t (by omega)
  rw [hS3] at hS4
  have HK4 := Lib.hid (rskip_any S4 (by omega))
  have hk4 := skipN_le S4.data.toList
  rw [hS4] at HK4 hk4
  have hl4 := parse_len (s := S4)
  rw [hS4] at hl4
  obtain ⟨l4, hl4e⟩ : ∃ l, l = (r.drop k2).drop t := ⟨_, rfl⟩
  rw [← hl4e] at HK4 hk4 hl4 hS4 hv
  try rw [← hl4e] at hpf
  obtain ⟨k4, hk4e⟩ : ∃ k, k = skipN l4 := ⟨_, rfl⟩
  rw [← hk4e] at HK4 hk4 hv
  have HR : Hid (S4.data.toList = s.data.toList.drop (k1 + 1 + k2 + t)) := by
    show _ = _
    rw [hS4, hl4e, ← hr, hS2, hS1, List.drop_drop, List.drop_drop, List.drop_drop]
    congr 1
    omega
  have HP : Hid (parF s.data.toList = some (k1 + 1 + k2 + t)) := by show _ = _; rw [hpf]; rfl
  have e4 : ((k4 : Int) == (S4.size : Int)) = true := by
    have := congrArg List.length hv
    rw [List.length_drop, List.length_nil] at this
    rw [beq_iff_eq]
    omega
  have KB := Lib.hid (Blk.new w #[.string ⟨#[]⟩, .string ⟨#[]⟩] 181)
  have HB := Lib.hid ((Below.refl w.heap.size w).alloc (Nat.le_refl _) (.cells #[.string ⟨#[]⟩, .string ⟨#[]⟩] 181))
  clear h ht hk1 hk1e hl hS1 hz1 z0 ix0 hd1 hS2 hz2 hsl2' hr hk2 hl2 hk2e hS3 hz3 hte htl hNM hzN hnm hS4 hz4 hk4 hl4 hl4e hk4e hv hpf hve
  go_enter Tryz.func171, Tryz.ntmps171
  go_wp2_with fail
  refine (HK1.out _).mono ?_
  rintro x1 w1 ⟨rfl, rfl⟩
  go_wp2_with fail
  refine (HK2.out _).mono ?_
  rintro x2 w2 ⟨rfl, rfl⟩
  go_wp2_with fail
  refine (HT3.out _).mono ?_
  rintro x3 w3 ⟨rfl, rfl⟩
  go_wp2_with fail
  refine (HLW.out _).mono ?_
  rintro x4 w4 ⟨rfl, hb⟩
  have HB4 := Lib.hid (HB.out.trans (hb.mono HB.out.size))
  have K4 := Lib.hid (KB.out.call hb)
  have HNE := Lib.hid (alloc_ne hb)
  clear hb
  go_wp2_with fail
  refine (HK4.out _).mono ?_
  rintro x5 w5 ⟨rfl, rfl⟩
  have K5 := Lib.hid (K4.out.alloc (.cells #[.string nm, .string ⟨#[]⟩] 181))
  have q0 := K5.out.froz 0
  have q1 := K5.out.froz 1
  have q2 := K5.out.cell 0
  have q3 := K5.out.cell 1
  simp at q0 q1 q2 q3
  go_wp2_with fail
  refine bodyPost_ret (results_att Tryz.results171 _ _ _ _ rfl (run_loadVar_row _ _ _ _ _ _ _ (blk_set2 (K4.out.alloc (.cells #[.string nm, .string ⟨#[]⟩] 181)) (.string nm) (.string ⟨#[]⟩)) Tryz.underlying181 rfl (by kernel_rfl))) rfl ?_
  refine ⟨nm, ⟨#[]⟩, S4, ?_, (fun m hm => by rw [HP.out] at hm; cases hm; exact HR.out), ((HB4.out.alloc HB4.out.size _).setCell (Nat.le_refl _) _).setCell (Nat.le_refl _) _⟩
  rw [HP.out]
  rfl
set_option maxRecDepth 100000 in
set_option maxHeartbeats 1000000 in
theorem rparam_endB (s : ByteArray) (hs : s.size ≤ 1000000) (w : World) {r : List UInt8} (h : s.data.toList.drop (skipN s.data.toList) = 59 :: r) (ht : tokN (r.drop (skipN r)) ≠ 0) {c : UInt8} {r' : List UInt8} (hc : c ≠ 61) (hv : ((r.drop (skipN r)).drop (tokN (r.drop (skipN r)))).drop (skipN ((r.drop (skipN r)).drop (tokN (r.drop (skipN r))))) = c :: r') : Calls Tryz.prog 171 #[.string s] w (ParamR s.data.toList w) := by
  have hpf := parF_some h ht
  have hve := valF_end (Or.inr ⟨_, _, hv, hc⟩)
  rw [hve] at hpf
  have HK1 := Lib.hid (rskip_any s hs)
  have hk1 := skipN_le s.data.toList
  obtain ⟨k1, hk1e⟩ : ∃ k, k = skipN s.data.toList := ⟨_, rfl⟩
  rw [← hk1e] at HK1 hk1 h
  have hl := parse_len (s := s)
  obtain ⟨S1, hS1, hz1, hsl1⟩ := cut_from s k1 (by omega)
  obtain ⟨z0, ix0, hd1⟩ := prmS (s := s) (hS1.trans h)
  have ix1 : ∀ W : World, (Instr.index 9 (.string S1) (.int .i64 0)).run Tryz.prog W = .ok (.int .u8 59) W := ix0
  have e0 : ((S1.size : Int) == 0) = false := by rw [beq_eq_false_iff_ne]; omega
  obtain ⟨S2, hS2, hz2, hsl2'⟩ := cut_from S1 1 (by omega)
  have hsl2 : ∀ W : World, (Instr.slice 9 (.string S1) (some (.int .i64 1)) none none).run Tryz.prog W = .ok (.string S2) W := hsl2'
  have hr : S2.data.toList = r := by rw [hS2, hd1]; rfl
  have HK2 := Lib.hid (rskip_any S2 (by omega))
  have hk2 := skipN_le S2.data.toList
  rw [hr] at HK2 hk2
  have hl2 := parse_len (s := S2)
  rw [hr] at hl2
  obtain ⟨k2, hk2e⟩ : ∃ k, k = skipN r := ⟨_, rfl⟩
  rw [← hk2e] at HK2 hk2 ht
  obtain ⟨S3, hS3, hz3, hsl3⟩ := cut_from S2 k2 (by omega)
  rw [hr] at hS3
  have HT3 := Lib.hid (rtoken04_any S3 (by omega))
  rw [hS3] at HT3
  obtain ⟨t, hte⟩ : ∃ k, k = tokN (r.drop k2) := ⟨_, rfl⟩
  rw [← hte] at HT3 ht
  rw [← hk1e, ← hk2e, ← hte] at hpf
  rw [← hk2e, ← hte] at hv
  have htl := tokN_le (r.drop k2)
  rw [← hte, List.length_drop] at htl
  have et : ((t : Int) == 0) = false := by rw [beq_eq_false_iff_ne]; omega
  obtain ⟨NM, hNM, hzN, hsl4⟩ := cut_to S3 t (by omega)
  have HLW := Lib.hid (rlower_any NM (by omega))
  obtain ⟨nm, hnm⟩ : ∃ x, x = lowB NM := ⟨_, rfl⟩
  rw [← hnm] at HLW
  obtain ⟨S4, hS4, hz4, hsl5⟩ := cut_from S3 t (by omega)
  rw [hS3] at hS4
  have HK4 := Lib.hid (rskip_any S4 (by omega))
  have hk4 := skipN_le S4.data.toList
  rw [hS4] at HK4 hk4
  have hl4 := parse_len (s := S4)
  rw [hS4] at hl4
  obtain ⟨l4, hl4e⟩ : ∃ l, l = (r.drop k2).drop t := ⟨_, rfl⟩
  rw [← hl4e] at HK4 hk4 hl4 hS4 hv
  try rw [← hl4e] at hpf
  obtain ⟨k4, hk4e⟩ : ∃ k, k = skipN l4 := ⟨_, rfl⟩
  rw [← hk4e] at HK4 hk4 hv
  have HR : Hid (S4.data.toList = s.data.toList.drop (k1 + 1 + k2 + t)) := by
    show _ = _
    rw [hS4, hl4e, ← hr, hS2, hS1, List.drop_drop, List.drop_drop, List.drop_drop]
    congr 1
    omega
  have HP : Hid (parF s.data.toList = some (k1 + 1 + k2 + t)) := by show _ = _; rw [hpf]; rfl
  have hk4l : k4 < S4.size := by
    have := congrArg List.length hv
    rw [List.length_drop, List.length_cons] at this
    omega
  have e4 : ((k4 : Int) == (S4.size : Int)) = false := by rw [beq_eq_false_iff_ne]; omega
  have ix4 := index_bt S4 k4 hk4l
  obtain ⟨c', hc', hd'⟩ := bt_drop S4 k4 hk4l
  rw [hS4, hv] at hd'
  have hcc : c = c' := by injection hd'
  rw [hc', ← hcc] at ix4
  obtain ⟨e5, e6⟩ := u8_ne (n := 61) (by decide) hc
  obtain ⟨x, hx⟩ : ∃ x : Int, x = (c.toNat : Int) := ⟨_, rfl⟩
  rw [← hx] at ix4 e5 e6
  clear hx hcc hc' hd' hc
  have KB := Lib.hid (Blk.new w #[.string ⟨#[]⟩, .string ⟨#[]⟩] 181)
  have HB := Lib.hid ((Below.refl w.heap.size w).alloc (Nat.le_refl _) (.cells #[.string ⟨#[]⟩, .string ⟨#[]⟩] 181))
  clear h ht hk1 hk1e hl hS1 hz1 z0 ix0 hd1 hS2 hz2 hsl2' hr hk2 hl2 hk2e hS3 hz3 hte htl hNM hzN hnm hS4 hz4 hk4 hl4 hl4e hk4e hv hpf hve
  go_enter Tryz.func171, Tryz.ntmps171
  go_wp2_with fail
  refine (HK1.out _).mono ?_
  rintro x1 w1 ⟨rfl, rfl⟩
  go_wp2_with fail
  refine (HK2.out _).mono ?_
  rintro x2 w2 ⟨rfl, rfl⟩
  go_wp2_with fail
  refine (HT3.out _).mono ?_
  rintro x3 w3 ⟨rfl, rfl⟩
  go_wp2_with fail
  refine (HLW.out _).mono ?_
  rintro x4 w4 ⟨rfl, hb⟩
  have HB4 := Lib.hid (HB.out.trans (hb.mono HB.out.size))
  have K4 := Lib.hid (KB.out.call hb)
  have HNE := Lib.hid (alloc_ne hb)
  clear hb
  go_wp2_with fail
  refine (HK4.out _).mono ?_
  rintro x5 w5 ⟨rfl, rfl⟩
  have K5 := Lib.hid (K4.out.alloc (.cells #[.string nm, .string ⟨#[]⟩] 181))
  have q0 := K5.out.froz 0
  have q1 := K5.out.froz 1
  have q2 := K5.out.cell 0
  have q3 := K5.out.cell 1
  simp at q0 q1 q2 q3
  go_wp2_with fail
  refine bodyPost_ret (results_att Tryz.results171 _ _ _ _ rfl (run_loadVar_row _ _ _ _ _ _ _ (blk_set2 (K4.out.alloc (.cells #[.string nm, .string ⟨#[]⟩] 181)) (.string nm) (.string ⟨#[]⟩)) Tryz.underlying181 rfl (by kernel_rfl))) rfl ?_
  refine ⟨nm, ⟨#[]⟩, S4, ?_, (fun m hm => by rw [HP.out] at hm; cases hm; exact HR.out), ((HB4.out.alloc HB4.out.size _).setCell (Nat.le_refl _) _).setCell (Nat.le_refl _) _⟩
  rw [HP.out]
  rfl
set_option maxRecDepth 100000 in
set_option maxHeartbeats 1000000 in
theorem rparam_val (s : ByteArray) (hs : s.size ≤ 1000000) (w : World) {r : List UInt8} (h : s.data.toList.drop (skipN s.data.toList) = 59 :: r) (ht : tokN (r.drop (skipN r)) ≠ 0) {r' : List UInt8} (hv : ((r.drop (skipN r)).drop (tokN (r.drop (skipN r)))).drop (skipN ((r.drop (skipN r)).drop (tokN (r.drop (skipN r))))) = 61 :: r') (h6 : 0 < tokN (r'.drop (skipN r'))) : Calls Tryz.prog 171 #[.string s] w (ParamR s.data.toList w) := by
  have hpf := parF_some h ht
  have hve := valF_tok hv h6
  rw [hve] at hpf
  have HK1 := Lib.hid (rskip_any s hs)
  have hk1 := skipN_le s.data.toList
  obtain ⟨k1, hk1e⟩ : ∃ k, k = skipN s.data.toList := ⟨_, rfl⟩
  rw [← hk1e] at HK1 hk1 h
  have hl := parse_len (s := s)
  obtain ⟨S1, hS1, hz1, hsl1⟩ := cut_from s k1 (by omega)
  obtain ⟨z0, ix0, hd1⟩ := prmS (s := s) (hS1.trans h)
  have ix1 : ∀ W : World, (Instr.index 9 (.string S1) (.int .i64 0)).run Tryz.prog W = .ok (.int .u8 59) W := ix0
  have e0 : ((S1.size : Int) == 0) = false := by rw [beq_eq_false_iff_ne]; omega
  obtain ⟨S2, hS2, hz2, hsl2'⟩ := cut_from S1 1 (by omega)
  have hsl2 : ∀ W : World, (Instr.slice 9 (.string S1) (some (.int .i64 1)) none none).run Tryz.prog W = .ok (.string S2) W := hsl2'
  have hr : S2.data.toList = r := by rw [hS2, hd1]; rfl
  have HK2 := Lib.hid (rskip_any S2 (by omega))
  have hk2 := skipN_le S2.data.toList
  rw [hr] at HK2 hk2
  have hl2 := parse_len (s := S2)
  rw [hr] at hl2
  obtain ⟨k2, hk2e⟩ : ∃ k, k = skipN r := ⟨_, rfl⟩
  rw [← hk2e] at HK2 hk2 ht
  obtain ⟨S3, hS3, hz3, hsl3⟩ := cut_from S2 k2 (by omega)
  rw [hr] at hS3
  have HT3 := Lib.hid (rtoken04_any S3 (by omega))
  rw [hS3] at HT3
  obtain ⟨t, hte⟩ : ∃ k, k = tokN (r.drop k2) := ⟨_, rfl⟩
  rw [← hte] at HT3 ht
  rw [← hk1e, ← hk2e, ← hte] at hpf
  rw [← hk2e, ← hte] at hv
  rw [← hk2e, ← hte] at hve
  have htl := tokN_le (r.drop k2)
  rw [← hte, List.length_drop] at htl
  have et : ((t : Int) == 0) = false := by rw [beq_eq_false_iff_ne]; omega
  obtain ⟨NM, hNM, hzN, hsl4⟩ := cut_to S3 t (by omega)
  have HLW := Lib.hid (rlower_any NM (by omega))
  obtain ⟨nm, hnm⟩ : ∃ x, x = lowB NM := ⟨_, rfl⟩
  rw [← hnm] at HLW
  obtain ⟨S4, hS4, hz4, hsl5⟩ := cut_from S3 t (by omega)
  rw [hS3] at hS4
  have HK4 := Lib.hid (rskip_any S4 (by omega))
  have hk4 := skipN_le S4.data.toList
  rw [hS4] at HK4 hk4
  have hl4 := parse_len (s := S4)
  rw [hS4] at hl4
  obtain ⟨l4, hl4e⟩ : ∃ l, l = (r.drop k2).drop t := ⟨_, rfl⟩
  rw [← hl4e] at HK4 hk4 hl4 hS4 hv
  try rw [← hl4e] at hpf
  obtain ⟨k4, hk4e⟩ : ∃ k, k = skipN l4 := ⟨_, rfl⟩
  rw [← hk4e] at HK4 hk4 hv
  have hk4l : k4 < S4.size := by
    have := congrArg List.length hv
    rw [List.length_drop, List.length_cons] at this
    omega
  have e4 : ((k4 : Int) == (S4.size : Int)) = false := by rw [beq_eq_false_iff_ne]; omega
  have k4b : (k4 : Int) ≤ 1000000 := by omega
  have ix4' := index_bt S4 k4 hk4l
  obtain ⟨c', hc', hd'⟩ := bt_drop S4 k4 hk4l
  rw [hS4, hv] at hd'
  have hcc : (61 : UInt8) = c' := by injection hd'
  rw [hc', ← hcc] at ix4'
  have ix4 : ∀ W : World, (Instr.index 9 (.string S4) (.int .i64 (k4 : Int))).run Tryz.prog W = .ok (.int .u8 61) W := ix4'
  obtain ⟨S5, hS5, hz5, hsl6'⟩ := cut_from S4 (k4 + 1) (by omega)
  have hsl6 : ∀ W : World, (Instr.slice 9 (.string S4) (some (.int .i64 ((k4 : Int) + 1))) none none).run Tryz.prog W = .ok (.string S5) W := fun W => by
    have h := hsl6' W
    rw [show ((k4 + 1 : Nat) : Int) = (k4 : Int) + 1 by omega] at h
    exact h
  have hS5r : S5.data.toList = r' := by rw [hS5, hS4]; exact (drop_cons_eq hv).symm
  have HK5 := Lib.hid (rskip_any S5 (by omega))
  have hk5 := skipN_le S5.data.toList
  rw [hS5r] at HK5 hk5
  have hl5 := parse_len (s := S5)
  rw [hS5r] at hl5
  obtain ⟨k5, hk5e⟩ : ∃ k, k = skipN r' := ⟨_, rfl⟩
  rw [← hk5e] at HK5 hk5 h6
  obtain ⟨S6, hS6, hz6, hsl7⟩ := cut_from S5 k5 (by omega)
  rw [hS5r] at hS6
  have HT6 := Lib.hid (rtoken04_any S6 (by omega))
  have hl6 := parse_len (s := S6)
  rw [hS6] at HT6 hl6
  obtain ⟨t6, ht6e⟩ : ∃ k, k = tokN (r'.drop k5) := ⟨_, rfl⟩
  have ht6l := tokN_le (r'.drop k5)
  rw [← ht6e] at HT6 h6 ht6l
  obtain ⟨VV, hVV, hzV, hsl8⟩ := cut_to S6 t6 (by omega)
  rw [← hk5e, ← ht6e, ← hk4e] at hpf
  have HP : Hid (parF s.data.toList = some (k1 + 1 + k2 + t + (k4 + 1 + k5 + t6))) := by show _ = _; rw [hpf]; rfl
  have HR6 : Hid (∀ n, n ≤ S6.size → S6.data.toList.drop n = s.data.toList.drop (k1 + 1 + k2 + t + (k4 + 1 + k5 + n))) := fun n hn => by
    rw [hS6, ← hS5r, hS5, hS4, hl4e, ← hr, hS2, hS1, List.drop_drop, List.drop_drop, List.drop_drop, List.drop_drop, List.drop_drop, List.drop_drop]
    congr 1
    omega
  obtain ⟨S7, hS7, hz7, hsl9⟩ := cut_from S6 t6 (by omega)
  have HR : Hid (S7.data.toList = s.data.toList.drop (k1 + 1 + k2 + t + (k4 + 1 + k5 + t6))) := by show _ = _; rw [hS7]; exact HR6.out t6 (by omega)
  have e6 : ((t6 : Int) == 0) = false := by rw [beq_eq_false_iff_ne]; omega
  have e7 : decide ((0 : Int) < (t6 : Int)) = true := decide_eq_true (by omega)
  have e8 : decide (0 < t6) = true := decide_eq_true h6
  have KB := Lib.hid (Blk.new w #[.string ⟨#[]⟩, .string ⟨#[]⟩] 181)
  have HB := Lib.hid ((Below.refl w.heap.size w).alloc (Nat.le_refl _) (.cells #[.string ⟨#[]⟩, .string ⟨#[]⟩] 181))
  clear h ht hk1 hk1e hl hS1 hz1 z0 ix0 hd1 hS2 hz2 hsl2' hr hk2 hl2 hk2e hS3 hz3 hte htl hNM hzN hnm hS4 hz4 hk4 hl4 hl4e hk4e hv hpf hve hk4l ix4' hc' hd' hcc hS5 hz5 hsl6' hS5r hk5 hl5 hk5e hS6 hz6 hl6 ht6l hVV hzV hS7 hz7 h6 ht6e HR6
  go_enter Tryz.func171, Tryz.ntmps171
  go_wp2_with fail
  refine (HK1.out _).mono ?_
  rintro x1 w1 ⟨rfl, rfl⟩
  go_wp2_with fail
  refine (HK2.out _).mono ?_
  rintro x2 w2 ⟨rfl, rfl⟩
  go_wp2_with fail
  refine (HT3.out _).mono ?_
  rintro x3 w3 ⟨rfl, rfl⟩
  go_wp2_with fail
  refine (HLW.out _).mono ?_
  rintro x4 w4 ⟨rfl, hb⟩
  have HB4 := Lib.hid (HB.out.trans (hb.mono HB.out.size))
  have K4 := Lib.hid (KB.out.call hb)
  have HNE := Lib.hid (alloc_ne hb)
  clear hb
  go_wp2_with fail
  refine (HK4.out _).mono ?_
  rintro x5 w5 ⟨rfl, rfl⟩
  go_wp2_with fail
  refine (HK5.out _).mono ?_
  rintro x6 w6 ⟨rfl, rfl⟩
  go_wp2_with fail
  refine (HT6.out _).mono ?_
  rintro x7 w7 ⟨rfl, rfl⟩
  have K5 := Lib.hid (K4.out.alloc (.cells #[.string nm, .string VV] 181))
  have q0 := K5.out.froz 0
  have q1 := K5.out.froz 1
  have q2 := K5.out.cell 0
  have q3 := K5.out.cell 1
  simp at q0 q1 q2 q3
  go_wp2_with fail
  have KP := Lib.hid (Blk.new w4 #[.string nm, .string VV] 181)
  refine wp_region_at (S := RgS w w.heap.size w4.heap.size (.string nm) (.string VV)) (by kernel_rfl) ?_
  rintro V0 hV0
  have h0 : RgS w w.heap.size w4.heap.size (.string nm) (.string VV) V0 := by rw [hV0]; exact ⟨KP.out, ⟨_, _, K5.out⟩, (HB4.out.alloc HB4.out.size _).drew⟩
  clear hV0 q0 q1 q2 q3
  refine wpAnyH_take (i := 0) (v := Value.agg #[.string nm, .string VV]) rfl (by kernel_rfl) (by kernel_rfl) (by kernel_rfl) (fun _ _ _ h => h) (Or.inl ⟨by kernel_rfl, ?hy0⟩) h0 ?rest0
  case hy0 =>
    intro w' hSw
    have a0 := hSw.1.cell 0
    have a1 := hSw.1.cell 1
    simp at a0 a1
    clear hSw
    go_simp
  (try simp only [Act.put, List.setIfInBounds_toArray, List.set_cons_zero, List.set_cons_succ])
  refine wpAnyH_take (i := 1) (v := Value.string S6) rfl (by kernel_rfl) (by kernel_rfl) (by kernel_rfl) (fun _ _ _ h => h) (Or.inl ⟨by kernel_rfl, ?hy1⟩) h0 ?rest1
  case hy1 =>
    intro w' hSw
    clear hSw
    go_simp
  (try simp only [Act.put, List.setIfInBounds_toArray, List.set_cons_zero, List.set_cons_succ])
  refine wpAnyH_take (i := 2) (v := (.int .i64 (t6 : Int))) rfl (by kernel_rfl) (by kernel_rfl) (by kernel_rfl) (fun _ _ _ h => h) (Or.inl ⟨by kernel_rfl, ?hy2⟩) h0 ?rest2
  case hy2 =>
    intro w' hSw
    clear hSw
    go_simp
  (try simp only [Act.put, List.setIfInBounds_toArray, List.set_cons_zero, List.set_cons_succ])
  refine wpAnyH_take (i := 3) (v := Value.string S7) rfl (by kernel_rfl) (by kernel_rfl) (by kernel_rfl) (fun _ _ _ h => h) (Or.inl ⟨by kernel_rfl, ?hy3⟩) h0 ?rest3
  case hy3 =>
    intro w' hSw
    clear hSw
    go_simp
  (try simp only [Act.put, List.setIfInBounds_toArray, List.set_cons_zero, List.set_cons_succ])
  refine wpAnyH_take (i := 4) (v := (.int .i64 (t6 : Int))) rfl (by kernel_rfl) (by kernel_rfl) (by kernel_rfl) (fun _ _ _ h => h) (Or.inl ⟨by kernel_rfl, ?hy4⟩) h0 ?rest4
  case hy4 =>
    intro w' hSw
    clear hSw
    go_simp
  (try simp only [Act.put, List.setIfInBounds_toArray, List.set_cons_zero, List.set_cons_succ])
  refine wpAnyH_take (i := 5) (v := (.bool true)) rfl (by kernel_rfl) (by kernel_rfl) (by kernel_rfl) (fun _ _ _ h => h) (Or.inl ⟨by kernel_rfl, ?hy5⟩) h0 ?rest5
  case hy5 =>
    intro w' hSw
    clear hSw
    go_simp
  (try simp only [Act.put, List.setIfInBounds_toArray, List.set_cons_zero, List.set_cons_succ])
  refine wpAnyH_ready (rs := [6]) (by kernel_rfl) (by simp) ?_
  obtain ⟨hP0, ⟨ga, gb, hG0⟩, hB0⟩ := h0
  have a0 := hG0.cell 0
  have a1 := hG0.cell 1
  have f0 := hG0.froz 0
  have f1 := hG0.froz 1
  simp at a0 a1
  refine AllReadyH.cons rfl (fun K hK => ?_) AllReadyH.nil
  go_simp
  clear a0 a1 f0 f1
  obtain ⟨V1, hV1⟩ : ∃ V, V = (V0.setCell ⟨w.heap.size, 0, none⟩ (.string nm)).setCell ⟨w.heap.size, 1, none⟩ (.string VV) := ⟨_, rfl⟩
  rw [← hV1]
  have hG1 : Blk V1 w.heap.size #[.string nm, .string VV] 181 := by rw [hV1]; exact blk_set2 hG0 _ _
  have hZ : RgS w w.heap.size w4.heap.size (.string nm) (.string VV) V1 := ⟨by rw [hV1]; exact (hP0.far (p := ⟨w.heap.size, 0, none⟩) HNE.out _).far (p := ⟨w.heap.size, 1, none⟩) HNE.out _, ⟨_, _, hG1⟩, by rw [hV1]; exact (hB0.setCell (Nat.le_refl _) _).setCell (Nat.le_refl _) _⟩
  clear hV1 hP0 hG0 hB0
  refine hK _ _ hZ (fun _ => ?_)
  clear hK K
  (try simp only [Act.put, List.setIfInBounds_toArray, List.set_cons_zero, List.set_cons_succ])
  refine wpAnyH_ready (rs := [7]) (by kernel_rfl) (by simp) ?_
  refine AllReadyH.cons rfl (fun K hK => ?_) AllReadyH.nil
  go_simp
  refine hK _ _ hZ (fun _ => ?_)
  clear hK K
  (try simp only [Act.put, List.setIfInBounds_toArray, List.set_cons_zero, List.set_cons_succ])
  refine wpAnyH_ready (rs := [8]) (by kernel_rfl) (by simp) ?_
  refine AllReadyH.cons rfl (fun K hK => ?_) AllReadyH.nil
  go_simp
  refine hK _ _ hZ (fun _ => ?_)
  clear hK K
  (try simp only [Act.put, List.setIfInBounds_toArray, List.set_cons_zero, List.set_cons_succ])
  refine wpAnyH_done (by kernel_rfl) ?_ _
  go_wp2_with fail
  refine bodyPost_ret (results_att Tryz.results171 _ _ _ _ rfl (run_loadVar_row _ _ _ _ _ _ _ hG1 Tryz.underlying181 rfl (by kernel_rfl))) rfl ?_
  refine ⟨nm, VV, S7, ?_, (fun m hm => by rw [HP.out] at hm; cases hm; exact HR.out), hZ.2.2⟩
  rw [HP.out]
  rfl
set_option maxRecDepth 100000 in
set_option maxHeartbeats 1000000 in
theorem rparam_quo (s : ByteArray) (hs : s.size ≤ 1000000) (w : World) {r : List UInt8} (h : s.data.toList.drop (skipN s.data.toList) = 59 :: r) (ht : tokN (r.drop (skipN r)) ≠ 0) {r' : List UInt8} (hv : ((r.drop (skipN r)).drop (tokN (r.drop (skipN r)))).drop (skipN ((r.drop (skipN r)).drop (tokN (r.drop (skipN r))))) = 61 :: r') (h6 : tokN (r'.drop (skipN r')) = 0) : Calls Tryz.prog 171 #[.string s] w (ParamR s.data.toList w) := by
  have hpf := parF_some h ht
  have hve := valF_quo hv h6
  rw [hve] at hpf
  have HK1 := Lib.hid (rskip_any s hs)
  have hk1 := skipN_le s.data.toList
  obtain ⟨k1, hk1e⟩ : ∃ k, k = skipN s.data.toList := ⟨_, rfl⟩
  rw [← hk1e] at HK1 hk1 h
  have hl := parse_len (s := s)
  obtain ⟨S1, hS1, hz1, hsl1⟩ := cut_from s k1 (by omega)
  obtain ⟨z0, ix0, hd1⟩ := prmS (s := s) (hS1.trans h)
  have ix1 : ∀ W : World, (Instr.index 9 (.string S1) (.int .i64 0)).run Tryz.prog W = .ok (.int .u8 59) W := ix0
  have e0 : ((S1.size : Int) == 0) = false := by rw [beq_eq_false_iff_ne]; omega
  obtain ⟨S2, hS2, hz2, hsl2'⟩ := cut_from S1 1 (by omega)
  have hsl2 : ∀ W : World, (Instr.slice 9 (.string S1) (some (.int .i64 1)) none none).run Tryz.prog W = .ok (.string S2) W := hsl2'
  have hr : S2.data.toList = r := by rw [hS2, hd1]; rfl
  have HK2 := Lib.hid (rskip_any S2 (by omega))
  have hk2 := skipN_le S2.data.toList
  rw [hr] at HK2 hk2
  have hl2 := parse_len (s := S2)
  rw [hr] at hl2
  obtain ⟨k2, hk2e⟩ : ∃ k, k = skipN r := ⟨_, rfl⟩
  rw [← hk2e] at HK2 hk2 ht
  obtain ⟨S3, hS3, hz3, hsl3⟩ := cut_from S2 k2 (by omega)
  rw [hr] at hS3
  have HT3 := Lib.hid (rtoken04_any S3 (by omega))
  rw [hS3] at HT3
  obtain ⟨t, hte⟩ : ∃ k, k = tokN (r.drop k2) := ⟨_, rfl⟩
  rw [← hte] at HT3 ht
  rw [← hk1e, ← hk2e, ← hte] at hpf
  rw [← hk2e, ← hte] at hv
  rw [← hk2e, ← hte] at hve
  have htl := tokN_le (r.drop k2)
  rw [← hte, List.length_drop] at htl
  have et : ((t : Int) == 0) = false := by rw [beq_eq_false_iff_ne]; omega
  obtain ⟨NM, hNM, hzN, hsl4⟩ := cut_to S3 t (by omega)
  have HLW := Lib.hid (rlower_any NM (by omega))
  obtain ⟨nm, hnm⟩ : ∃ x, x = lowB NM := ⟨_, rfl⟩
  rw [← hnm] at HLW
  obtain ⟨S4, hS4, hz4, hsl5⟩ := cut_from S3 t (by omega)
  rw [hS3] at hS4
  have HK4 := Lib.hid (rskip_any S4 (by omega))
  have hk4 := skipN_le S4.data.toList
  rw [hS4] at HK4 hk4
  have hl4 := parse_len (s := S4)
  rw [hS4] at hl4
  obtain ⟨l4, hl4e⟩ : ∃ l, l = (r.drop k2).drop t := ⟨_, rfl⟩
  rw [← hl4e] at HK4 hk4 hl4 hS4 hv
  try rw [← hl4e] at hpf
  obtain ⟨k4, hk4e⟩ : ∃ k, k = skipN l4 := ⟨_, rfl⟩
  rw [← hk4e] at HK4 hk4 hv
  have hk4l : k4 < S4.size := by
    have := congrArg List.length hv
    rw [List.length_drop, List.length_cons] at this
    omega
  have e4 : ((k4 : Int) == (S4.size : Int)) = false := by rw [beq_eq_false_iff_ne]; omega
  have k4b : (k4 : Int) ≤ 1000000 := by omega
  have ix4' := index_bt S4 k4 hk4l
  obtain ⟨c', hc', hd'⟩ := bt_drop S4 k4 hk4l
  rw [hS4, hv] at hd'
  have hcc : (61 : UInt8) = c' := by injection hd'
  rw [hc', ← hcc] at ix4'
  have ix4 : ∀ W : World, (Instr.index 9 (.string S4) (.int .i64 (k4 : Int))).run Tryz.prog W = .ok (.int .u8 61) W := ix4'
  obtain ⟨S5, hS5, hz5, hsl6'⟩ := cut_from S4 (k4 + 1) (by omega)
  have hsl6 : ∀ W : World, (Instr.slice 9 (.string S4) (some (.int .i64 ((k4 : Int) + 1))) none none).run Tryz.prog W = .ok (.string S5) W := fun W => by
    have h := hsl6' W
    rw [show ((k4 + 1 : Nat) : Int) = (k4 : Int) + 1 by omega] at h
    exact h
  have hS5r : S5.data.toList = r' := by rw [hS5, hS4]; exact (drop_cons_eq hv).symm
  have HK5 := Lib.hid (rskip_any S5 (by omega))
  have hk5 := skipN_le S5.data.toList
  rw [hS5r] at HK5 hk5
  have hl5 := parse_len (s := S5)
  rw [hS5r] at hl5
  obtain ⟨k5, hk5e⟩ : ∃ k, k = skipN r' := ⟨_, rfl⟩
  rw [← hk5e] at HK5 hk5 h6
  obtain ⟨S6, hS6, hz6, hsl7⟩ := cut_from S5 k5 (by omega)
  rw [hS5r] at hS6
  have HT6 := Lib.hid (rtoken04_any S6 (by omega))
  have hl6 := parse_len (s := S6)
  rw [hS6] at HT6 hl6
  obtain ⟨t6, ht6e⟩ : ∃ k, k = tokN (r'.drop k5) := ⟨_, rfl⟩
  have ht6l := tokN_le (r'.drop k5)
  rw [← ht6e] at HT6 h6 ht6l
  obtain ⟨VV, hVV, hzV, hsl8⟩ := cut_to S6 t6 (by omega)
  rw [← hk5e, ← hk4e] at hpf
  obtain ⟨Q, hQe⟩ : ∃ Q, Q = quL (r'.drop k5) := ⟨_, rfl⟩
  rw [← hQe] at hpf
  have HQU := Lib.hid (rquoted_any S6 (by omega) (Q := Q) (by rw [hS6]; exact hQe))
  have hql : quN Q ≤ S6.size ∧ decide ((0 : Int) < (quN Q : Int)) = Q.isSome ∧ decide (0 < quN Q) = Q.isSome := by
    cases hq : Q with
    | none => exact ⟨Nat.zero_le _, rfl, rfl⟩
    | some p =>
      have h := quL_le (hQe.symm.trans hq)
      have h1 : quN (some p) = p.1 := rfl
      rw [h1]
      exact ⟨by omega, decide_eq_true (by omega), decide_eq_true (by omega)⟩
  have HP : Hid (parF s.data.toList = Q.map (fun p => k1 + 1 + k2 + t + (k4 + 1 + k5 + p.1))) := by show _ = _; rw [hpf, Option.map_map]; rfl
  have HR6 : Hid (∀ n, n ≤ S6.size → S6.data.toList.drop n = s.data.toList.drop (k1 + 1 + k2 + t + (k4 + 1 + k5 + n))) := fun n hn => by
    rw [hS6, ← hS5r, hS5, hS4, hl4e, ← hr, hS2, hS1, List.drop_drop, List.drop_drop, List.drop_drop, List.drop_drop, List.drop_drop, List.drop_drop]
    congr 1
    omega
  obtain ⟨q, hqe⟩ : ∃ q, q = quN Q := ⟨_, rfl⟩
  obtain ⟨QT, hqt⟩ : ∃ q, q = quT Q := ⟨_, rfl⟩
  obtain ⟨B, hBe⟩ : ∃ b, b = Q.isSome := ⟨_, rfl⟩
  rw [← hqe, ← hBe] at hql
  rw [← hqe, ← hqt] at HQU
  obtain ⟨hq1, e7, e8⟩ := hql
  obtain ⟨S7, hS7, hz7, hsl9⟩ := cut_from S6 q (by omega)
  have HR : Hid (∀ m, Q.map (fun p => k1 + 1 + k2 + t + (k4 + 1 + k5 + p.1)) = some m → S7.data.toList = s.data.toList.drop m) := fun m hm => by
    cases hq : Q with
    | none => rw [hq] at hm; cases hm
    | some p =>
      rw [hq] at hm
      cases hm
      have h1 : q = p.1 := by rw [hqe, hq]; rfl
      show S7.data.toList = s.data.toList.drop (k1 + 1 + k2 + t + (k4 + 1 + k5 + p.1))
      rw [hS7, ← h1]
      exact HR6.out q hq1
  have HBE : Hid ((parF s.data.toList).isSome = B) := by show _ = _; rw [HP.out, Option.isSome_map, ← hBe]
  have e6 : ((t6 : Int) == 0) = true := by rw [beq_iff_eq]; omega
  have KB := Lib.hid (Blk.new w #[.string ⟨#[]⟩, .string ⟨#[]⟩] 181)
  have HB := Lib.hid ((Below.refl w.heap.size w).alloc (Nat.le_refl _) (.cells #[.string ⟨#[]⟩, .string ⟨#[]⟩] 181))
  clear h ht hk1 hk1e hl hS1 hz1 z0 ix0 hd1 hS2 hz2 hsl2' hr hk2 hl2 hk2e hS3 hz3 hte htl hNM hzN hnm hS4 hz4 hk4 hl4 hl4e hk4e hv hpf hve hk4l ix4' hc' hd' hcc hS5 hz5 hsl6' hS5r hk5 hl5 hk5e hS6 hz6 hl6 ht6l hVV hzV hS7 hz7 h6 ht6e HR6 hQe hqe hqt hBe hq1
  go_enter Tryz.func171, Tryz.ntmps171
  go_wp2_with fail
  refine (HK1.out _).mono ?_
  rintro x1 w1 ⟨rfl, rfl⟩
  go_wp2_with fail
  refine (HK2.out _).mono ?_
  rintro x2 w2 ⟨rfl, rfl⟩
  go_wp2_with fail
  refine (HT3.out _).mono ?_
  rintro x3 w3 ⟨rfl, rfl⟩
  go_wp2_with fail
  refine (HLW.out _).mono ?_
  rintro x4 w4 ⟨rfl, hb⟩
  have HB4 := Lib.hid (HB.out.trans (hb.mono HB.out.size))
  have K4 := Lib.hid (KB.out.call hb)
  have HNE := Lib.hid (alloc_ne hb)
  clear hb
  go_wp2_with fail
  refine (HK4.out _).mono ?_
  rintro x5 w5 ⟨rfl, rfl⟩
  go_wp2_with fail
  refine (HK5.out _).mono ?_
  rintro x6 w6 ⟨rfl, rfl⟩
  go_wp2_with fail
  refine (HT6.out _).mono ?_
  rintro x7 w7 ⟨rfl, rfl⟩
  go_wp2_with fail
  refine (HQU.out _).mono ?_
  rintro x8 w8 ⟨rfl, rfl⟩
  have K5 := Lib.hid (K4.out.alloc (.cells #[.string nm, .string QT] 181))
  have q0 := K5.out.froz 0
  have q1 := K5.out.froz 1
  have q2 := K5.out.cell 0
  have q3 := K5.out.cell 1
  simp at q0 q1 q2 q3
  go_wp2_with fail
  have KP := Lib.hid (Blk.new w4 #[.string nm, .string QT] 181)
  refine wp_region_at (S := RgS w w.heap.size w4.heap.size (.string nm) (.string QT)) (by kernel_rfl) ?_
  rintro V0 hV0
  have h0 : RgS w w.heap.size w4.heap.size (.string nm) (.string QT) V0 := by rw [hV0]; exact ⟨KP.out, ⟨_, _, K5.out⟩, (HB4.out.alloc HB4.out.size _).drew⟩
  clear hV0 q0 q1 q2 q3
  refine wpAnyH_take (i := 0) (v := Value.agg #[.string nm, .string QT]) rfl (by kernel_rfl) (by kernel_rfl) (by kernel_rfl) (fun _ _ _ h => h) (Or.inl ⟨by kernel_rfl, ?hy0⟩) h0 ?rest0
  case hy0 =>
    intro w' hSw
    have a0 := hSw.1.cell 0
    have a1 := hSw.1.cell 1
    simp at a0 a1
    clear hSw
    go_simp
  (try simp only [Act.put, List.setIfInBounds_toArray, List.set_cons_zero, List.set_cons_succ])
  refine wpAnyH_take (i := 1) (v := Value.string S6) rfl (by kernel_rfl) (by kernel_rfl) (by kernel_rfl) (fun _ _ _ h => h) (Or.inl ⟨by kernel_rfl, ?hy1⟩) h0 ?rest1
  case hy1 =>
    intro w' hSw
    clear hSw
    go_simp
  (try simp only [Act.put, List.setIfInBounds_toArray, List.set_cons_zero, List.set_cons_succ])
  refine wpAnyH_take (i := 2) (v := (.int .i64 (q : Int))) rfl (by kernel_rfl) (by kernel_rfl) (by kernel_rfl) (fun _ _ _ h => h) (Or.inl ⟨by kernel_rfl, ?hy2⟩) h0 ?rest2
  case hy2 =>
    intro w' hSw
    clear hSw
    go_simp
  (try simp only [Act.put, List.setIfInBounds_toArray, List.set_cons_zero, List.set_cons_succ])
  refine wpAnyH_take (i := 3) (v := Value.string S7) rfl (by kernel_rfl) (by kernel_rfl) (by kernel_rfl) (fun _ _ _ h => h) (Or.inl ⟨by kernel_rfl, ?hy3⟩) h0 ?rest3
  case hy3 =>
    intro w' hSw
    clear hSw
    go_simp
  (try simp only [Act.put, List.setIfInBounds_toArray, List.set_cons_zero, List.set_cons_succ])
  refine wpAnyH_take (i := 4) (v := (.int .i64 (q : Int))) rfl (by kernel_rfl) (by kernel_rfl) (by kernel_rfl) (fun _ _ _ h => h) (Or.inl ⟨by kernel_rfl, ?hy4⟩) h0 ?rest4
  case hy4 =>
    intro w' hSw
    clear hSw
    go_simp
  (try simp only [Act.put, List.setIfInBounds_toArray, List.set_cons_zero, List.set_cons_succ])
  refine wpAnyH_take (i := 5) (v := (.bool B)) rfl (by kernel_rfl) (by kernel_rfl) (by kernel_rfl) (fun _ _ _ h => h) (Or.inl ⟨by kernel_rfl, ?hy5⟩) h0 ?rest5
  case hy5 =>
    intro w' hSw
    clear hSw
    go_simp
  (try simp only [Act.put, List.setIfInBounds_toArray, List.set_cons_zero, List.set_cons_succ])
  refine wpAnyH_ready (rs := [6]) (by kernel_rfl) (by simp) ?_
  obtain ⟨hP0, ⟨ga, gb, hG0⟩, hB0⟩ := h0
  have a0 := hG0.cell 0
  have a1 := hG0.cell 1
  have f0 := hG0.froz 0
  have f1 := hG0.froz 1
  simp at a0 a1
  refine AllReadyH.cons rfl (fun K hK => ?_) AllReadyH.nil
  go_simp
  clear a0 a1 f0 f1
  obtain ⟨V1, hV1⟩ : ∃ V, V = (V0.setCell ⟨w.heap.size, 0, none⟩ (.string nm)).setCell ⟨w.heap.size, 1, none⟩ (.string QT) := ⟨_, rfl⟩
  rw [← hV1]
  have hG1 : Blk V1 w.heap.size #[.string nm, .string QT] 181 := by rw [hV1]; exact blk_set2 hG0 _ _
  have hZ : RgS w w.heap.size w4.heap.size (.string nm) (.string QT) V1 := ⟨by rw [hV1]; exact (hP0.far (p := ⟨w.heap.size, 0, none⟩) HNE.out _).far (p := ⟨w.heap.size, 1, none⟩) HNE.out _, ⟨_, _, hG1⟩, by rw [hV1]; exact (hB0.setCell (Nat.le_refl _) _).setCell (Nat.le_refl _) _⟩
  clear hV1 hP0 hG0 hB0
  refine hK _ _ hZ (fun _ => ?_)
  clear hK K
  (try simp only [Act.put, List.setIfInBounds_toArray, List.set_cons_zero, List.set_cons_succ])
  refine wpAnyH_ready (rs := [7]) (by kernel_rfl) (by simp) ?_
  refine AllReadyH.cons rfl (fun K hK => ?_) AllReadyH.nil
  go_simp
  refine hK _ _ hZ (fun _ => ?_)
  clear hK K
  (try simp only [Act.put, List.setIfInBounds_toArray, List.set_cons_zero, List.set_cons_succ])
  refine wpAnyH_ready (rs := [8]) (by kernel_rfl) (by simp) ?_
  refine AllReadyH.cons rfl (fun K hK => ?_) AllReadyH.nil
  go_simp
  refine hK _ _ hZ (fun _ => ?_)
  clear hK K
  (try simp only [Act.put, List.setIfInBounds_toArray, List.set_cons_zero, List.set_cons_succ])
  refine wpAnyH_done (by kernel_rfl) ?_ _
  go_wp2_with fail
  refine bodyPost_ret (results_att Tryz.results171 _ _ _ _ rfl (run_loadVar_row _ _ _ _ _ _ _ hG1 Tryz.underlying181 rfl (by kernel_rfl))) rfl ?_
  refine ⟨nm, QT, S7, ?_, (fun m hm => HR.out m (by rw [← HP.out]; exact hm)), hZ.2.2⟩
  rw [HBE.out]
  rfl
theorem rparam_any (s : ByteArray) (hs : s.size ≤ 1000000) (w : World) : Calls Tryz.prog 171 #[.string s] w (ParamR s.data.toList w) := by
  cases h : s.data.toList.drop (skipN s.data.toList) with
  | nil => exact rparam_none1 s hs w h
  | cons b r =>
    by_cases hb : b = 59
    · subst hb
      by_cases ht : tokN (r.drop (skipN r)) = 0
      · exact rparam_tok0 s hs w h ht
      · cases h4 : ((r.drop (skipN r)).drop (tokN (r.drop (skipN r)))).drop (skipN ((r.drop (skipN r)).drop (tokN (r.drop (skipN r))))) with
        | nil => exact rparam_endA s hs w h ht h4
        | cons c r' =>
          by_cases hc : c = 61
          · subst hc
            by_cases h6 : tokN (r'.drop (skipN r')) = 0
            · exact rparam_quo s hs w h ht h4 h6
            · exact rparam_val s hs w h ht h4 (by omega)
          · exact rparam_endB s hs w h ht hc h4
    · exact rparam_bad s hs w h hb
end Go.Proofs.YtcpjkemjpgggcaaGreatDoor
