/- Texts packed for one claim, 25 of 52: Parse. -/
import Derived.Test.YtaojfiegnebbdaaGreatDoorMbkQ7
import Derived.Test.YtaojfiegnebbdaaGreatDoorMbkQ24
set_option maxRecDepth 100000
set_option maxHeartbeats 16000000
set_option linter.unusedSimpArgs false
set_option linter.unusedVariables false
-- Parse
namespace Go.Proofs.YtaojfiegnebbdaaGreatDoor
open Go.RowKit
theorem parF_eq (s : ByteArray) (a a1 a2 a3 a4 t : Nat) (b1 : Bool) (V : Option Nat) (h1 : a1 = a + skipN (s.data.toList.drop a)) (hb : isB 59 (s.data.toList.drop a1) = b1) (h2 : a2 = a1 + if b1 = true then 1 else 0) (h3 : a3 = a2 + skipN (s.data.toList.drop a2)) (ht : t = tokN (s.data.toList.drop a3)) (h4 : a4 = a3 + t) (hV : V = valF (s.data.toList.drop a4)) :
 parF (s.data.toList.drop a) = if b1 = true ∧ t ≠ 0 then V.map (fun n => (a4 - a) + n) else none := by
 unfold parF
 rw [List.drop_drop, ← h1]
 cases hd : s.data.toList.drop a1 with
 | nil =>
   rw [hd] at hb
   have : b1 = false := hb.symm
   rw [this, if_neg (by simp)]
 | cons b r =>
   simp only
   by_cases h59 : b = 59
   ·have hb1 : b1 = true := by
     rw [← hb, hd, h59]
     exact (isB_iff (n := 59) (c := 59) rfl).2 ⟨r, rfl⟩
    rw [hb1, if_pos rfl] at h2
    have e2 : s.data.toList.drop a2 = r := by rw [h2, ← List.drop_drop, hd]; rfl
    rw [e2] at h3
    have e3 : s.data.toList.drop a3 = r.drop (skipN r) := by rw [h3, ← List.drop_drop, e2]
    rw [e3] at ht
    have e4 : s.data.toList.drop a4 = r.drop (skipN r + tokN (r.drop (skipN r))) := by rw [h4, ← List.drop_drop, e3, List.drop_drop, ht]
    rw [e4] at hV
    rw [if_pos h59, ← ht]
    by_cases h0 : t = 0
    ·rw [if_pos h0, if_neg (fun h => h.2 h0)]
    ·rw [if_neg h0, if_pos ⟨hb1, h0⟩, hV, ← ht]
     congr 1
     funext n
     omega
   ·have hb1 : b1 = false := by
     rw [← hb, hd, Bool.eq_false_iff]
     intro h
     obtain ⟨t', e⟩ := (isB_iff (n := 59) (c := 59) rfl).1 h
     injection e with e _
     exact h59 e
    rw [if_neg h59, hb1, if_neg (by simp)]
theorem skip_le (s : ByteArray) (a : Nat) (h : a ≤ s.size) : a + skipN (s.data.toList.drop a) ≤ s.size := by
 have := skipN_le (s.data.toList.drop a)
 rw [List.length_drop] at this
 have hl : s.data.toList.length = s.size := by simp
 omega
theorem tok_le (s : ByteArray) (a : Nat) (h : a ≤ s.size) : a + tokN (s.data.toList.drop a) ≤ s.size := by
 have := tokN_le (s.data.toList.drop a)
 rw [List.length_drop] at this
 have hl : s.data.toList.length = s.size := by simp
 omega
theorem isB_lt {s : ByteArray} {a : Nat} {c : Int} (h : isB c (s.data.toList.drop a) = true) : a + 1 ≤ s.size := by
 have hl : s.data.toList.length = s.size := by simp
 rcases Nat.lt_or_ge a s.size with h1 | h1
 ·omega
 ·rw [List.drop_of_length_le (by omega)] at h
  cases h
structure PrAt (w : World) (g bc bb bl B a : Nat) (s : ByteArray) (bad : Bool) (v : Value) (l : List Fd) : Prop where
 c : CurAt w g s a
 kc : Blk w bc #[.pointer (some ⟨g, 0, none⟩)] 197
 kb : Blk w bb #[.bool bad] 4
 kl : Blk w bl #[v] 174
 o : OwnP w B v l
 lt : bl < B ∧ bb < B ∧ g < B ∧ bc < B
 sz : B ≤ w.heap.size
theorem next_any (w : World) (g bc bb bl B a : Nat) (s : ByteArray) (hs : s.size ≤ 1000000) (v : Value) (l : List Fd) (h : PrAt w g bc bb bl B a s false v l) (hll : l.length ≤ 1000000) :
 Calls Tryz.prog 192 #[.pointer (some ⟨bc, 0, none⟩), .pointer (some ⟨bb, 0, none⟩), .pointer (some ⟨bl, 0, none⟩)] w fun e w' => ∃ a' v' q, e = .returned (.bool ((parF (s.data.toList.drop a)).isSome && !(s.data.toList.drop a').isEmpty)) ∧ (∀ n, parF (s.data.toList.drop a) = some n → a' = a + n) ∧
  PrAt w' g bc bb bl B a' s (parF (s.data.toList.drop a)).isNone v' (l ++ [q]) ∧ Touch (PrP g bb bl v) w w' := by
 obtain ⟨a1, h1⟩ : ∃ a1, a1 = a + skipN (s.data.toList.drop a) := ⟨_, rfl⟩
 obtain ⟨b1, hb⟩ : ∃ b1, isB 59 (s.data.toList.drop a1) = b1 := ⟨_, rfl⟩
 obtain ⟨a2, h2⟩ : ∃ a2, a2 = a1 + if b1 = true then 1 else 0 := ⟨_, rfl⟩
 obtain ⟨a3, h3⟩ : ∃ a3, a3 = a2 + skipN (s.data.toList.drop a2) := ⟨_, rfl⟩
 obtain ⟨t, ht⟩ : ∃ t, t = tokN (s.data.toList.drop a3) := ⟨_, rfl⟩
 obtain ⟨a4, h4⟩ : ∃ a4, a4 = a3 + t := ⟨_, rfl⟩
 obtain ⟨V, hV⟩ : ∃ V, V = valF (s.data.toList.drop a4) := ⟨_, rfl⟩
 have hpf := parF_eq s a a1 a2 a3 a4 t b1 V h1 hb h2 h3 ht h4 hV
 have l1 : a1 ≤ s.size := by rw [h1]; exact skip_le s a h.c.le
 have l2 : a2 ≤ s.size := by
  rw [h2]
  split
  ·rename_i hb1
   rw [hb1] at hb
   exact isB_lt hb
  ·omega
 have l3 : a3 ≤ s.size := by rw [h3]; exact skip_le s a2 l2
 have l4 : a4 ≤ s.size := by rw [h4, ht]; exact tok_le s a3 l3
 obtain ⟨X, hX⟩ : ∃ X, X = s.extract a3 a4 := ⟨_, rfl⟩
 have hXs : X.size = t := by rw [hX]; simp; omega
 obtain ⟨t0, ht0⟩ : ∃ t0, t0 = (lowB X).toList.isEmpty := ⟨_, rfl⟩
 have ht00 : t0 = decide (t = 0) := by
  rw [ht0, isEmpty_list, Bool.eq_iff_iff, List.isEmpty_iff, decide_eq_true_eq]
  have hl : (lowB X).data.toList.length = t := by rw [← Lib.size_eq, lowB_size, hXs]
  constructor
  ·intro e
   rw [e] at hl
   simpa using hl.symm
  ·intro e
   exact List.eq_nil_of_length_eq_zero (by omega)
 have n1 : g ≠ bc := h.c.k.ne h.kc (by decide)
 have n2 : g ≠ bb := h.c.k.ne h.kb (by decide)
 have n3 : g ≠ bl := h.c.k.ne h.kl (by decide)
 refine (next_walk w g bc bb bl B a a1 a2 a3 a4 t s hs v l h.c h.kc h.kb h.kl h.o h.lt h.sz hll ⟨fun e => n1 (show bc = g from e).symm, fun e => n2 (show bb = g from e).symm, fun e => n3 (show bl = g from e).symm, h.kc.ne h.kb (by decide), h.kl.ne h.kb (by decide), h.kc.ne h.kl (by decide)⟩ b1 t0 V.isSome V X (lowB X) h1 hb h2 h3 ht h4 hX (show X.size ≤ 1000000 by omega) rfl ht0.symm hV rfl).mono ?_
 rintro e w' ⟨a5, E, v', q, rfl, hc, hV5, hE, k1, k2, k3, ho, tt⟩
 have hsome : (parF (s.data.toList.drop a)).isSome = (b1 && (!t0 && V.isSome)) := by
  rw [hpf, ht00]
  cases b1
  ·rfl
  ·by_cases h0 : t = 0
   ·rw [if_neg (fun h => h.2 h0)]; simp [h0]
   ·rw [if_pos ⟨rfl, h0⟩]; cases V <;> simp [h0]
 refine ⟨a5, v', q, ?_, ?_, ⟨hc, k1, ?_, k3, ho, h.lt, nT h.sz tt.size⟩, tt⟩
 ·rw [hsome]
  cases b1
  ·rfl
  cases t0
  ·cases hv : V.isSome
   ·rfl
   ·rw [hE rfl rfl hv]; rfl
  ·rfl
 ·intro n hn
  rw [hpf] at hn
  split at hn
  ·cases V with
   | none => cases hn
   | some m =>
     cases hn
     have := hV5 m rfl
     have la : a1 ≤ a2 := by rw [h2]; exact Nat.le_add_right _ _
     have lb : a ≤ a1 := by rw [h1]; exact Nat.le_add_right _ _
     have lc : a2 ≤ a3 := by rw [h3]; exact Nat.le_add_right _ _
     show a5 = a + (a4 - a + m)
     omega
  ·cases hn
 ·have : (parF (s.data.toList.drop a)).isNone = !(b1 && (!t0 && V.isSome)) := by rw [← hsome]; cases parF (s.data.toList.drop a) <;> rfl
  rw [this]
  exact k2
def wordC (NM : ByteArray) : Option Nat → ByteArray × Nat × Int
 | none => (⟨#[]⟩, 0, 3)
 | some k => (NM, k, 0)
def parsS (L : List UInt8) : Option Nat → Option Nat
 | none => none
 | some n => (parsF (L.drop n)).map (· + 1)
theorem parsF_S {L : List UInt8} (h : L ≠ []) : parsF L = parsS L (parF L) := by
 rw [parsF_step h]
 cases parF L <;> rfl
def curPos (w : World) (g : Nat) : Nat := match w.cell? ⟨g, 1, none⟩ with
 | some (.int _ n) => n.toNat
 | _ => 0
theorem curPos_at {w : World} {g a : Nat} {s : ByteArray} (h : CurAt w g s a) : curPos w g = a := by
 unfold curPos
 have := h.k.cell 1
 rw [this]
 rfl
def parMeas (n g : Nat) (u : Value) (w : World) : Nat := match u with
 | .bool true => n + 1 - curPos w g
 | _ => 0
theorem results_tct {fn : Func} {t p u : Tmp} {ty : TypeId} (h : fn.results = #[.tmp t, .cell p ty, .tmp u]) (tmps : Array Value) (P : Program) (w : World) :
 (results fn tmps).run P w = ((asAddr (tmps.getD p undef)).run P w).andThen fun a w₁ => ((loadVar ty a).run P w₁).andThen fun v w₂ => .ok (.tuple #[tmps.getD t undef, v, tmps.getD u undef]) w₂ := by
 simp only [results, h]
 simp [Sem.run_bind, Result.andThen]
theorem results_tct_at {fn : Func} {t p u : Tmp} {ty : TypeId} (h : fn.results = #[.tmp t, .cell p ty, .tmp u]) (tmps : Array Value) (P : Program) (w : World) (g : Nat) (x : Value) (hp : tmps.getD p undef = .pointer (some ⟨g, 0, none⟩)) (hx : w.cell? ⟨g, 0, none⟩ = some x) (ha : ∀ W, (isAgg ty).run P W = .ok false W) :
 (results fn tmps).run P w = .ok (.tuple #[tmps.getD t undef, x, tmps.getD u undef]) w := by
 rw [results_tct h, hp]
 have hl : (loadVar ty ⟨g, 0, none⟩).run P w = .ok x w := by
  unfold loadVar
  simp [Sem.run_bind, ha, Result.andThen, run_load, hx]
 show ((loadVar ty ⟨g, 0, none⟩).run P w).andThen _ = _
 rw [hl]
 rfl
theorem params_any (s : ByteArray) (hs : s.size ≤ 1000000) (w : World) :
 Calls Tryz.prog 162 #[.string s] w fun e w' => ∃ p c, e = .returned (.tuple #[.string (wordP s).1, .slice p (wordP s).2.1 c, .int .i64 (wordP s).2.2]) ∧ Below w.heap.size w w' := by
 by_cases h0 : s.size = 0
 ·have he : s.toList.isEmpty = true := by
   rw [isEmpty_list, List.isEmpty_iff]
   exact List.eq_nil_of_length_eq_zero (by rw [← Lib.size_eq]; exact h0)
  have HW : Hid (wordP s = (⟨#[]⟩, 0, 2)) := by show _ = _; unfold wordP; rw [if_pos h0]
  clear h0
  go_enter Tryz.func162, Tryz.ntmps162
  go_wp2_with fail
  have a1 : ∀ W, (isAgg 174).run Tryz.prog W = .ok false W := fun W => by kernel_rfl
  refine bodyPost_ret (v := .tuple #[.string ⟨#[]⟩, .slice none 0 0, .int .i64 2]) (results_tct_at Tryz.results162 _ _ _ w.heap.size (.slice none 0 0) rfl ((Blk.new w #[.slice none 0 0] 174).cell 0) a1) rfl ?_
  rw [HW.out]
  exact ⟨none, 0, rfl, (Below.refl _ _).alloc (nR _) _⟩
 have HCN : Hid (CurAt ((w.alloc (.cells #[.slice none 0 0] 174)).alloc (.cells #[.string s, .int .i64 0] 216)) (w.heap.size + 1) s 0) := ⟨Blk.new' (by simp), Nat.zero_le _⟩
 have he : s.toList.isEmpty = false := by
  rw [isEmpty_list, List.isEmpty_eq_false_iff]
  intro e
  have hl : s.data.toList.length = s.size := by simp
  rw [e] at hl
  simp at hl
  omega
 obtain ⟨t, ht⟩ : ∃ t, t = tokN (s.data.toList.drop 0) := ⟨_, rfl⟩
 have htl := tok_le s 0 (Nat.zero_le _)
 rw [← ht, Nat.zero_add] at htl
 obtain ⟨X, hX⟩ : ∃ X, X = s.extract 0 t := ⟨_, rfl⟩
 have hXs : X.size = t := by rw [hX]; simp; omega
 obtain ⟨NM, hNM⟩ : ∃ N, N = lowB X := ⟨_, rfl⟩
 obtain ⟨t0, ht0⟩ : ∃ t0, t0 = NM.toList.isEmpty := ⟨_, rfl⟩
 have hne : NM.toList.isEmpty = t0 := ht0.symm
 have ht00 : t0 = decide (t = 0) := by
  rw [ht0, hNM, isEmpty_list, Bool.eq_iff_iff, List.isEmpty_iff, decide_eq_true_eq]
  have hl : (lowB X).data.toList.length = t := by rw [← Lib.size_eq, lowB_size, hXs]
  constructor
  ·intro e
   rw [e] at hl
   simpa using hl.symm
  ·intro e
   exact List.eq_nil_of_length_eq_zero (by omega)
 obtain ⟨F, hF⟩ : ∃ F, F = parsF (s.data.toList.drop t) := ⟨_, rfl⟩
 have hW : wordP s = if t0 = true then ((⟨#[]⟩, 0, 3) : ByteArray × Nat × Int) else wordC NM F := by
  unfold wordP
  rw [if_neg h0]
  have ht' : t = tokN s.data.toList := ht
  rw [← ht', ← hF, hNM, hX, ht00]
  by_cases h : t = 0
  ·rw [if_pos h, if_pos (by simpa using h)]
  ·rw [if_neg h, if_neg (by simpa using h)]
   cases F <;> rfl
 have HW := lH hW
 have HT := lH ht
 have HX := lH hX
 have HNM := lH hNM
 have HF := lH hF
 have HTL := lH htl
 have HXS : Hid (X.size ≤ 1000000) := by show _ ≤ _; omega
 clear h0 ht hX hXs hNM ht0 ht00 hF hW htl
 have hag : ∀ W, (isAgg 174).run Tryz.prog W = .ok false W := fun W => by kernel_rfl
 have HAG := lH hag
 clear hag
 go_enter Tryz.func162, Tryz.ntmps162
 go_wp2_with fail
 refine (newc_any s _).mono ?_
 rintro e1 w1 ⟨rfl, hw1⟩
 rw [World.size_alloc]
 have hc1 : CurAt w1 (w.heap.size + 1) s 0 := by rw [hw1]; exact HCN.out
 have kl1 : Blk w1 w.heap.size #[.slice none 0 0] 174 := by rw [hw1]; exact (Blk.new _ _ _).alloc _
 have hb1 : Below w.heap.size w w1 := by rw [hw1]; exact ((Below.refl _ _).alloc (nR _) _).alloc (by simp) _
 have hz1 : w1.heap.size = w.heap.size + 2 := by rw [hw1]; simp
 have hsb : Below w1.heap.size w1 (w1.alloc (.cells #[.pointer (some ⟨w.heap.size + 1, 0, none⟩)] 197)) := (Below.refl _ _).alloc (nR _) _
 have HC2 := lH (hc1.call hsb)
 have KC2 : Hid (Blk (w1.alloc (.cells #[.pointer (some ⟨w.heap.size + 1, 0, none⟩)] 197)) w1.heap.size #[.pointer (some ⟨w.heap.size + 1, 0, none⟩)] 197) := Blk.new _ _ _
 have HZ1 := lH hz1
 have KL2 := lH (kl1.call hsb)
 have HB2 : Hid (Below w.heap.size w (w1.alloc (.cells #[.pointer (some ⟨w.heap.size + 1, 0, none⟩)] 197))) := hb1.trans (hsb.mono hb1.size)
 have HZ2 : Hid ((w1.alloc (.cells #[.pointer (some ⟨w.heap.size + 1, 0, none⟩)] 197)).heap.size = w.heap.size + 3) := by show _ = _; simp; omega
 clear hw1 hc1 kl1 hb1 hz1 hsb HCN
 go_wp2_with fail
 refine (ctoken_any HC2.out hs).mono ?_
 rintro e3 w3 ⟨rfl, hc3, ht3⟩
 rw [← HT.out, Nat.zero_add] at hc3 ⊢
 rw [← HX.out]
 have HC3 := lH hc3
 have KC3 := lH (KC2.out.touch ht3 (fun e => by have h : w1.heap.size = w.heap.size + 1 := e; have h2 := HZ1.out; omega))
 have KL3 := lH (KL2.out.touch ht3 (fun e => by have h : w.heap.size = w.heap.size + 1 := e; omega))
 have HB3 : Hid (Below w.heap.size w w3) := HB2.out.trans (ht3.below (fun k _ hk => by rw [show k = w.heap.size + 1 from hk]; omega) HB2.out.size)
 have HZ3 : Hid (w.heap.size + 3 ≤ w3.heap.size) := by show _ ≤ _; rw [← HZ2.out]; exact ht3.size
 clear hc3 ht3
 go_wp2_with fail
 refine (olower_any X HXS.out w3).mono ?_
 rintro e4 w4 ⟨rfl, hb4⟩
 rw [← HNM.out]
 obtain ⟨B, hB⟩ : ∃ B, B = w4.heap.size + 1 := ⟨_, rfl⟩
 have hsb : Below w4.heap.size w4 (w4.alloc (.cells #[.bool t0] 4)) := (Below.refl _ _).alloc (nR _) _
 have hsb2 : Below w3.heap.size w3 (w4.alloc (.cells #[.bool t0] 4)) := hb4.trans (hsb.mono hb4.size)
 have PR : Hid (PrAt (w4.alloc (.cells #[.bool t0] 4)) (w.heap.size + 1) w1.heap.size w4.heap.size w.heap.size B t s t0 (.slice none 0 0) []) :=
  ⟨HC3.out.call hsb2, KC3.out.call hsb2, Blk.new _ _ _, KL3.out.call hsb2, World.ownsRow_nil _ _ _ _, by have h1 := HZ3.out; have h2 := hb4.size; have h3 := HZ1.out; omega, by rw [hB]; simp⟩
 have HBP : Hid (Below w.heap.size w (w4.alloc (.cells #[.bool t0] 4))) := HB3.out.trans (hsb2.mono HB3.out.size)
 have HBW : Hid (w.heap.size < B ∧ w.heap.size ≤ w4.heap.size) := by have h1 := HZ3.out; have h2 := hb4.size; exact ⟨by omega, by omega⟩
 clear hb4 hB hsb hsb2 HC2 KC2 KL2 HB2 HZ2 HC3 KC3 KL3
 have c0 := PR.out.kc.cell 0
 have b0 := PR.out.kb.cell 0
 simp at c0 b0
 obtain ⟨g4, hg4⟩ : ∃ g, g = w4.heap.size := ⟨_, rfl⟩
 cases t0 with
 | true =>
   have HWE : Hid (wordP s = (⟨#[]⟩, 0, 3)) := by show _ = _; rw [HW.out, if_pos rfl]
   have l0 := PR.out.kl.cell 0
   have f0 := PR.out.kl.froz 0
   simp at l0
   clear hg4
   go_wp2_with fail
   refine wp_loop_rounds 1 ?_
   rw [rounds_succ]
   go_wp2_with fail
   refine bodyPost_ret (v := .tuple #[.string ⟨#[]⟩, .slice none 0 0, .int .i64 3]) (results_tct_at Tryz.results162 _ _ _ w.heap.size (.slice none 0 0) rfl ((l_set PR.out.kl (.slice none 0 0)).cell 0) HAG.out) rfl ?_
   rw [HWE.out]
   exact ⟨none, 0, rfl, HBP.out.setCell (p := ⟨w.heap.size, 0, none⟩) (nR _) _⟩
 | false =>
   have hcd := cdone_any PR.out.c hs
   have HWE : Hid (wordP s = wordC NM F) := by show _ = _; rw [HW.out, if_neg (by decide)]
   have HCD := lH hcd
   clear hcd
   go_wp2_with fail
   refine HCD.out.mono ?_
   rintro e5 w5 ⟨rfl, hb5⟩
   have PR5 : Hid (PrAt w5 (w.heap.size + 1) w1.heap.size g4 w.heap.size B t s false (.slice none 0 0) []) := by
    rw [hg4]
    exact ⟨PR.out.c.call hb5, PR.out.kc.call hb5, PR.out.kb.call hb5, PR.out.kl.call hb5, World.ownsRow_nil _ _ _ _, PR.out.lt, nT PR.out.sz hb5.size⟩
   have HB5 : Hid (Below w.heap.size w w5) := HBP.out.trans (hb5.mono HBP.out.size)
   have HG4 : Hid (w.heap.size ≤ g4) := by rw [hg4]; exact HBW.out.2
   rw [← hg4]
   clear hb5 c0 b0 hg4 HCD PR HBP
   go_wp2_with fail
   go_loopw [8] (fun u8 wr => ∃ (a : Nat) (xs : List Fd) (v : Value) (more bad : Bool), u8 = .bool more ∧ PrAt wr (w.heap.size + 1) w1.heap.size g4 w.heap.size B a s bad v xs ∧ (bad = true → more = false ∧ F = none) ∧ (bad = false → xs.length ≤ a ∧ F = (parsF (s.data.toList.drop a)).map (· + xs.length) ∧ more = !(s.data.toList.drop a).isEmpty) ∧ Below w.heap.size w wr) (fun u8 wr => parMeas s.size (w.heap.size + 1) u8 wr)
   case atStart => exact ⟨t, [], .slice none 0 0, _, false, rfl, PR5.out, (fun h => by cases h), fun _ => ⟨Nat.zero_le _, by rw [HF.out]; cases parsF (s.data.toList.drop t) <;> rfl, rfl⟩, HB5.out⟩
   case round =>
    obtain ⟨a, xs, v, more, bad, rfl, hpr, hbd, hok, hb⟩ := hrel
    have HPR := lH hpr
    have HBD := lH hbd
    have HOK := lH hok
    have HB := lH hb
    have k0 := hpr.kb.cell 0
    have l0 := hpr.kl.cell 0
    have f0 := hpr.kl.froz 0
    simp at k0 l0
    clear hpr hbd hok hb
    cases more with
    | true =>
      have hb0 : bad = false := by
       cases bad with
       | false => rfl
       | true => exact absurd (HBD.out rfl).1 (by decide)
      subst hb0
      obtain ⟨hxl, hFa, hmo⟩ := HOK.out rfl
      have hne : s.data.toList.drop a ≠ [] := by
       intro e
       rw [e] at hmo
       cases hmo
      have hFs := parsF_S hne
      have hal := HPR.out.c.le
      have HNX := lH (next_any wr (w.heap.size + 1) w1.heap.size g4 w.heap.size B a s hs v xs HPR.out (by omega))
      obtain ⟨PF, hPF⟩ : ∃ P, P = parF (s.data.toList.drop a) := ⟨_, rfl⟩
      rw [← hPF] at HNX hFs
      have HFA : Hid (F = (parsS (s.data.toList.drop a) PF).map (· + xs.length)) := by
       show _ = _
       rw [hFa, hFs]
      have HP2 : Hid (∀ n, PF = some n → 2 ≤ n) := by
       show ∀ n, _ → _
       intro n hn
       rw [hPF] at hn
       exact (parF_le hn).1
      have HXL := lH hxl
      have HCP : Hid (curPos wr (w.heap.size + 1) = a) := curPos_at HPR.out.c
      have HALE := lH hal
      have HVB := lH (fun k hk => (ownP_blk HPR.out.o k hk).1 : ∀ k, v.ownBlock = some k → B ≤ k)
      clear hxl hFa hmo hne hFs hal hPF
      go_wp2_with (go_at_call 192; refine HNX.out.mono ?_; rintro e6 w6 ⟨a', v', q, rfl, hn6, hp6, ht6⟩; have HN6 := lH hn6; have HP6 := lH hp6; have HB6 : Hid (Below w.heap.size w w6) := (HB.out.trans (ht6.below (B := w.heap.size) (fun k _ hk => by rcases hk with e | e | e | e; (rw [show k = w.heap.size + 1 from e]; omega); (rw [e]; exact HG4.out); (rw [e]; exact nR _); (have h1 := HVB.out k e; have h2 := HBW.out.1; omega)) HB.out.size)); clear hn6 hp6 ht6)
      go_roundw
      case rel =>
       refine ⟨a', xs ++ [q], v', _, PF.isNone, rfl, HP6.out, fun h => ?_, fun h => ?_, HB6.out⟩
       ·cases PF with
        | none => exact ⟨rfl, by rw [HFA.out]; rfl⟩
        | some n => cases h
       ·cases PF with
        | none => cases h
        | some n =>
          have h1 := HN6.out n rfl
          have h2 := HP2.out n rfl
          have h3 := HXL.out
          refine ⟨by rw [List.length_append, List.length_singleton]; omega, ?_, rfl⟩
          rw [HFA.out, h1, List.length_append, List.length_singleton]
          unfold parsS
          simp only
          rw [List.drop_drop]
          cases parsF (s.data.toList.drop (a + n)) with
          | none => rfl
          | some k => simp; omega
      case measure =>
       have h3 := HCP.out
       have h4 := HALE.out
       have h5 := curPos_at HP6.out.c
       have h6 := HP6.out.c.le
       cases PF with
       | none =>
         show 0 < parMeas s.size (w.heap.size + 1) (.bool true) wr
         unfold parMeas
         simp only
         omega
       | some n =>
         have h1 := HN6.out n rfl
         have h2 := HP2.out n rfl
         cases he : (s.data.toList.drop a').isEmpty with
         | true =>
           show 0 < parMeas s.size (w.heap.size + 1) (.bool true) wr
           unfold parMeas
           simp only
           omega
         | false =>
           show parMeas s.size (w.heap.size + 1) (.bool true) w6 < parMeas s.size (w.heap.size + 1) (.bool true) wr
           unfold parMeas
           simp only
           omega
    | false =>
      cases bad with
      | true =>
        have HE : Hid (wordP s = (⟨#[]⟩, 0, 3)) := by show _ = _; rw [HWE.out, (HBD.out rfl).2]; rfl
        go_wp2_with fail
        refine bodyPost_ret (v := .tuple #[.string ⟨#[]⟩, .slice none 0 0, .int .i64 3]) (results_tct_at Tryz.results162 _ _ _ w.heap.size (.slice none 0 0) rfl ((l_set HPR.out.kl (.slice none 0 0)).cell 0) HAG.out) rfl ?_
        rw [HE.out]
        first | exact ⟨none, 0, rfl, HB.out.setCell (p := ⟨w.heap.size, 0, none⟩) (nR _) _⟩ | exact ⟨⟨none, 0, rfl⟩, HB.out.setCell (p := ⟨w.heap.size, 0, none⟩) (nR _) _⟩
      | false =>
        obtain ⟨_, hFa, hmo⟩ := HOK.out rfl
        have he : s.data.toList.drop a = [] := by
         cases hd : s.data.toList.drop a with
         | nil => rfl
         | cons b l => rw [hd] at hmo; cases hmo
        rw [he, parsF_nil] at hFa
        have HE : Hid (wordP s = (NM, xs.length, 0)) := by
         show _ = _
         rw [HWE.out, hFa]
         show wordC NM (some (0 + xs.length)) = _
         rw [Nat.zero_add]
         rfl
        obtain ⟨pv, cv, rfl⟩ := own_slice HPR.out.o
        clear hFa hmo he
        go_wp2_with fail
        refine wp_region_drew_tail 3 (by kernel_rfl) (by kernel_rfl) ?_
        simp only [List.take_succ_cons, List.take_zero, List.drop_succ_cons, List.drop_zero]
        repeat go_big_quiet_step (fail)
        refine wpQuiet_nil ?_
        rintro _ ⟨nq, rfl⟩
        go_wp2_with fail
        have kq : Blk (wr.drewN nq) w.heap.size #[.slice pv xs.length cv] 174 := HPR.out.kl
        refine bodyPost_ret (v := .tuple #[.string NM, .slice pv xs.length cv, .int .i64 0]) (results_tct_at Tryz.results162 _ _ _ w.heap.size (.slice pv xs.length cv) rfl ((l_set kq (.slice pv xs.length cv)).cell 0) HAG.out) rfl ?_
        rw [HE.out]
        have hfin := (below_drewM HB.out nq).setCell (p := ⟨w.heap.size, 0, none⟩) (nR _) (.slice pv xs.length cv)
        first | exact ⟨pv, cv, rfl, hfin⟩ | exact ⟨⟨pv, cv, rfl⟩, hfin⟩
theorem word_any (s : ByteArray) (hs : s.size ≤ 1000000) (w : World) :
 Calls Tryz.prog 128 #[.string s] w fun e w' => e = .returned (.tuple #[.string (wordP s).1, .bool (decide (0 < (wordP s).2.1)), .bool (wOk s)]) ∧ Below w.heap.size w w' := by
 have HP := lH (params_any s hs w)
 unfold wOk
 obtain ⟨⟨nm, k, e⟩, hW⟩ : ∃ W, W = wordP s := ⟨_, rfl⟩
 rw [← hW] at HP ⊢
 simp only at HP ⊢
 obtain ⟨q, hq⟩ : ∃ q, q = (e == 0) := ⟨_, rfl⟩
 have hqe : (e == 0) = q := hq.symm
 rw [hqe]
 obtain ⟨r, hr⟩ : ∃ r, r = decide (0 < k) := ⟨_, rfl⟩
 have hre : decide (0 < k) = r := hr.symm
 have hri : decide ((0 : Int) < (k : Int)) = r := by rw [hr]; exact decide_eq_decide.2 (by omega)
 rw [hre]
 clear hW hq hr
 go_enter Tryz.func128, Tryz.ntmps128
 go_wp2_with (go_at_call 162; refine HP.out.mono ?_; rintro e1 w1 ⟨p1, c1, rfl, hb⟩; have HB := lH hb; clear hb)
 refine bodyPost_ret (v := .tuple #[.string nm, .bool r, .bool q]) (by simp [results, Tryz.results128, go_sem]) rfl ?_
 exact ⟨rfl, HB.out⟩
end Go.Proofs.YtaojfiegnebbdaaGreatDoor