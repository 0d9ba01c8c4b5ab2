/- A head's text; the example of the law; limits opened. -/
import Derived.Test.YtmoofcmmpemdcaaGreatDoorText
import Derived.Test.YtmoofcmmpemdcaaGreatDoorField
import Derived.Test.YtmoofcmmpemdcaaGreatDoorHdA
import Derived.Test.YtmoofcmmpemdcaaGreatDoorLine
import Derived.Test.YtmoofcmmpemdcaaGreatDoorBldW
import Derived.Test.YtmoofcmmpemdcaaGreatDoorOpenHead
import Derived.Test.YtmoofcmmpemdcaaGreatDoorHeadP
import Derived.Deep.Slices
import Derived.Deep.Fields
import Derived.ChangeSame
set_option linter.unusedSimpArgs false
set_option linter.unusedVariables false
namespace Go.Proofs.YtmoofcmmpemdcaaGreatDoor
open Go.RowKit
/-- A number's text to the base 16; nothing below 0. -/
def hexB (n : Int) : ByteArray := if n < 0 then ⟨#[]⟩ else ⟨(figL 16 n.natAbs).toArray⟩
def crlf : ByteArray := ⟨#[13, 10]⟩
/-- The line ahead of a chunk. -/
def clineB (n : Int) : ByteArray := if n < 0 then ⟨#[]⟩ else hexB n ++ crlf
def beginB (n : Int) : ByteArray := if n < 1 then ⟨#[]⟩ else clineB n
theorem hexB_size (n : Int) (h' : n ≤ 9223372036854775807) : (hexB n).size ≤ 64 := by
  unfold hexB
  split
  · exact Nat.zero_le _
  · exact figB_size (by decide) _ (by omega)
theorem clineB_size (n : Int) (h' : n ≤ 9223372036854775807) : (clineB n).size ≤ 66 := by
  have := hexB_size n h'
  unfold clineB
  split
  · exact Nat.zero_le _
  · rw [ByteArray.size_append]; show (hexB n).size + 2 ≤ 66; omega
theorem beginB_size (n : Int) (h' : n ≤ 9223372036854775807) : (beginB n).size ≤ 66 := by
  have := clineB_size n h'
  unfold beginB
  split
  · exact Nat.zero_le _
  · exact this
set_option maxRecDepth 100000 in
theorem hextext_any (n : Int) (h : -9223372036854775808 ≤ n) (h' : n ≤ 9223372036854775807) (w : World) : Calls Tryz.prog 174 #[.int .i64 n] w fun e w' => e = .returned (.string (hexB n)) ∧ Below w.heap.size w w' := by
  by_cases hn : n < 0
  · have HT : Hid (hexB n = ⟨#[]⟩) := by show hexB n = _; unfold hexB; rw [if_pos hn]
    go_enter Tryz.func174, Tryz.ntmps174
    go_wp2_with fail
    go_ret
    rw [HT.out]
    exact ⟨rfl, Below.refl _ _⟩
  · have HC := Lib.hid (fun W => figures_16 n h h' W)
    have HT : Hid (hexB n = ⟨(figL 16 n.natAbs).toArray⟩) := by show hexB n = _; unfold hexB; rw [if_neg hn]
    have hn' : 0 ≤ n := by omega
    go_enter Tryz.func174, Tryz.ntmps174
    go_wp2_with (go_at_call 206; refine (HC.out _).mono ?_; rintro e' w' ⟨rfl, hb⟩; have HB := Lib.hid hb; clear hb)
    go_ret
    rw [HT.out]
    exact ⟨rfl, HB.out⟩
set_option maxRecDepth 100000 in
theorem cline_any (n : Int) (h : -9223372036854775808 ≤ n) (h' : n ≤ 9223372036854775807) (w : World) : Calls Tryz.prog 125 #[.int .i64 n] w fun e w' => e = .returned (.string (clineB n)) ∧ Below w.heap.size w w' := by
  by_cases hn : n < 0
  · have HT : Hid (clineB n = ⟨#[]⟩) := by show clineB n = _; unfold clineB; rw [if_pos hn]
    go_enter Tryz.func125, Tryz.ntmps125
    go_wp2_with fail
    go_ret
    rw [HT.out]
    exact ⟨rfl, Below.refl _ _⟩
  · have hz := hexB_size n h'
    obtain ⟨X, hX⟩ : ∃ X, X = hexB n := ⟨_, rfl⟩
    have HC : Hid (∀ W : World, Calls Tryz.prog 174 #[.int .i64 n] W fun e w' => e = .returned (.string X) ∧ Below W.heap.size W w') := fun W => by rw [hX]; exact hextext_any n h h' W
    have HT : Hid (clineB n = X ++ ⟨#[13, 10]⟩) := by show clineB n = _; unfold clineB; rw [if_neg hn, hX]; rfl
    rw [← hX] at hz
    have hadd := fun (W : World) => run_string_add_sum (P := Tryz.prog) (w := W) X ⟨#[13, 10]⟩ (by show X.size + 2 ≤ _; omega)
    have hn' : 0 ≤ n := by omega
    clear hX hz
    go_enter Tryz.func125, Tryz.ntmps125
    go_wp2_with (go_at_call 174; refine (HC.out _).mono ?_; rintro e' w' ⟨rfl, hb⟩; have HB := Lib.hid hb; clear hb)
    go_ret
    rw [HT.out]
    exact ⟨rfl, HB.out⟩
set_option maxRecDepth 100000 in
theorem begin_any (n : Int) (h : -9223372036854775808 ≤ n) (h' : n ≤ 9223372036854775807) (w : World) : Calls Tryz.prog 75 #[.int .i64 n] w fun e w' => e = .returned (.string (beginB n)) ∧ Below w.heap.size w w' := by
  by_cases hn : n < 1
  · have HT : Hid (beginB n = ⟨#[]⟩) := by show beginB n = _; unfold beginB; rw [if_pos hn]
    go_enter Tryz.func75, Tryz.ntmps75
    go_wp2_with fail
    go_ret
    rw [HT.out]
    exact ⟨rfl, Below.refl _ _⟩
  · have HC := Lib.hid (fun W => cline_any n h h' W)
    have HT : Hid (beginB n = clineB n) := by show beginB n = _; unfold beginB; rw [if_neg hn]
    have hn' : 1 ≤ n := by omega
    go_enter Tryz.func75, Tryz.ntmps75
    go_wp2_with (go_at_call 125; refine (HC.out _).mono ?_; rintro e' w' ⟨rfl, hb⟩; have HB := Lib.hid hb; clear hb)
    go_ret
    rw [HT.out]
    exact ⟨rfl, HB.out⟩
end Go.Proofs.YtmoofcmmpemdcaaGreatDoor
namespace Go.Proofs.YtmoofcmmpemdcaaGreatDoor
open Go.RowKit
abbrev Fld := ByteArray × ByteArray
/-- A slice value's fields. -/
def Fds (w : World) (A : Option Addr) (len : Nat) (l : List Fld) : Prop :=
  l.length = len ∧ (0 < len → ∃ b off, A = some ⟨b, off, none⟩ ∧ b < w.heap.size ∧ ∀ (i : Nat) (g : Fld), l[i]? = some g → w.cell? ⟨b, off + i * 2, none⟩ = some (.string g.1) ∧ w.cell? ⟨b, off + i * 2 + 1, none⟩ = some (.string g.2))
theorem Fds.below {w w' : World} {A : Option Addr} {len : Nat} {l : List Fld} (h : Fds w A len l) (hb : Below w.heap.size w w') : Fds w' A len l := by
  refine ⟨h.1, fun h0 => ?_⟩
  obtain ⟨b, off, e, hlt, hc⟩ := h.2 h0
  refine ⟨b, off, e, Nat.lt_of_lt_of_le hlt hb.size, fun i g hg => ?_⟩
  rw [hb.cell (p := ⟨b, off + i * 2, none⟩) hlt, hb.cell (p := ⟨b, off + i * 2 + 1, none⟩) hlt]
  exact hc i g hg
def frow (f : Fld) : ByteArray := flineB f.1 f.2 ++ crlf
/-- The trailers written so far. -/
def lastA (l : List Fld) : ByteArray := l.foldl (fun o f => o ++ frow f) ⟨#[48, 13, 10]⟩
def lastB (l : List Fld) : ByteArray := lastA l ++ crlf
theorem lastA_snoc (l : List Fld) (f : Fld) : lastA (l ++ [f]) = lastA l ++ frow f := by unfold lastA; rw [List.foldl_append]; rfl
theorem cline_zero : clineB 0 = ⟨#[48, 13, 10]⟩ := by
  unfold clineB hexB
  rw [if_neg (by decide), if_neg (by decide), show (0 : Int).natAbs = 0 from rfl, figL_low (by decide)]
  rfl
theorem frow_size (f : Fld) : (frow f).size ≤ f.1.size + f.2.size + 4 := by
  have := flineB_size f.1 f.2
  unfold frow
  rw [ByteArray.size_append]
  show (flineB f.1 f.2).size + 2 ≤ _
  omega
theorem lastA_size (l : List Fld) (hs : ∀ g ∈ l, g.1.size ≤ 1000 ∧ g.2.size ≤ 1000) : ∀ k, k ≤ l.length → (lastA (l.take k)).size ≤ 3 + 2004 * k
  | 0, _ => by rw [List.take_zero]; exact Nat.le_refl _
  | k + 1, h => by
    have h1 := lastA_size l hs k (by omega)
    rw [List.take_succ_eq_append_getElem (by omega), lastA_snoc, ByteArray.size_append]
    have h2 := frow_size (l[k]'(by omega))
    have h3 := hs (l[k]'(by omega)) (List.getElem_mem _)
    omega
theorem fline_at {n v X : ByteArray} (hX : X = flineB n v) (hn : n.size ≤ 1000000000) (hv : v.size ≤ 1000000000) (w : World) : Calls Tryz.prog 63 #[.agg #[.string n, .string v]] w fun e w' => e = .returned (.string X) ∧ Below w.heap.size w w' := by
  subst hX; exact fline_any n v hn hv w
set_option maxRecDepth 100000 in
set_option maxHeartbeats 4000000 in
theorem last_any {w : World} {A : Option Addr} {len cap : Nat} {l : List Fld} (h : Fds w A len l) (hl : len ≤ 1000) (hs : ∀ g ∈ l, g.1.size ≤ 1000 ∧ g.2.size ≤ 1000) :
    Calls Tryz.prog 76 #[.slice A len cap] w fun e w' => e = .returned (.string (lastB l)) ∧ Below w.heap.size w w' := by
  have hlen := h.1
  have H := Lib.hid h
  have HS := Lib.hid hs
  clear h hs
  have HC : Hid (∀ W : World, Calls Tryz.prog 125 #[.int .i64 0] W fun e w' => e = .returned (.string ⟨#[48, 13, 10]⟩) ∧ Below W.heap.size W w') := fun W => by
    have := cline_any 0 (by decide) (by decide) W
    rw [cline_zero] at this
    exact this
  go_enter Tryz.func76, Tryz.ntmps76
  go_wp2_with fail
  refine (HC.out _).mono ?_
  rintro e0 w0 ⟨rfl, hb0⟩
  have HB0 := Lib.hid hb0
  clear hb0
  go_wp2_with fail
  go_loopw [3, 9] (fun v i wr => ∃ k : Nat, k ≤ len ∧ i = .int .i64 k ∧ v = .string (lastA (l.take k)) ∧ Below w.heap.size w wr) (fun _ i _ => len - (intOf i).toNat)
  case atStart => exact ⟨0, by omega, rfl, rfl, HB0.out⟩
  case round =>
    obtain ⟨k, hk, rfl, rfl, hbel⟩ := hrel
    have HL := Lib.hid hbel
    have hz := lastA_size l HS.out k (by omega)
    obtain ⟨O, hO⟩ : ∃ O, O = lastA (l.take k) := ⟨_, rfl⟩
    rw [← hO] at hz
    rw [← hO]
    clear hbel
    by_cases hlt : k < len
    · obtain ⟨b, off, rfl, hbw, hc⟩ := (H.out.below HL.out).2 (by omega)
      obtain ⟨g, hg⟩ : ∃ g, l[k]? = some g := ⟨l[k]'(by omega), List.getElem?_eq_getElem (by omega)⟩
      obtain ⟨c0, c1⟩ := hc k g hg
      have hge : l[k]'(by omega) = g := by
        rw [List.getElem?_eq_getElem (by omega)] at hg
        exact Option.some.inj hg
      have hgs := HS.out g (List.mem_of_getElem? hg)
      obtain ⟨n, v⟩ := g
      obtain ⟨X, hX⟩ : ∃ X, X = flineB n v := ⟨_, rfl⟩
      have hXs : X.size ≤ n.size + v.size + 2 := by rw [hX]; exact flineB_size n v
      have HX : Hid (∀ W : World, Calls Tryz.prog 63 #[.agg #[.string n, .string v]] W fun e w' => e = .returned (.string X) ∧ Below W.heap.size W w') := fun W => fline_at hX (by have := hgs.1; simp only at this; omega) (by have := hgs.2; simp only at this; omega) W
      simp only at c0 c1 hgs
      obtain ⟨P, hP⟩ : ∃ P, P = X ++ ⟨#[13, 10]⟩ := ⟨_, rfl⟩
      have hPs : P.size = X.size + 2 := by rw [hP, ByteArray.size_append]; rfl
      have a1 : ∀ W : World, (Op.stringOp .add X ⟨#[13, 10]⟩).run Tryz.prog W = .ok (.string P) W := fun W => (run_string_add_sum (P := Tryz.prog) (w := W) X ⟨#[13, 10]⟩ (by show X.size + 2 ≤ _; omega)).trans (by rw [← hP])
      have a2 := fun (W : World) => run_string_add_sum (P := Tryz.prog) (w := W) O P (by omega)
      have HN : Hid (O ++ P = lastA (l.take (k + 1))) := by
        show O ++ P = _
        rw [List.take_succ_eq_append_getElem (by omega), lastA_snoc, hP, hO, hX, hge]; rfl
      have hki : (k : Int) < len := by omega
      clear hc hO hz hX hXs hP hPs hg hge hgs hbw
      go_wp2_with fail
      refine (HX.out _).mono ?_
      rintro e' w2 ⟨rfl, hb⟩
      have HB2 := Lib.hid hb
      clear hb c0 c1
      go_wp2_with fail
      go_roundw
      case rel => exact ⟨k + 1, by omega, by go_num, by rw [HN.out], (HL.out.alloc HL.out.size _).trans (HB2.out.mono (by have := HL.out.size; simp; omega))⟩
      case measure => simp [intOf]; omega
    · obtain rfl : k = len := by omega
      have a1 := fun (W : World) => run_string_add_sum (P := Tryz.prog) (w := W) O ⟨#[13, 10]⟩ (by show O.size + 2 ≤ _; omega)
      have HR : Hid (lastB l = O ++ ⟨#[13, 10]⟩) := by show lastB l = _; unfold lastB; rw [hO, List.take_of_length_le (by omega)]; rfl
      clear hO hz
      go_wp2_with fail
      go_ret
      rw [HR.out]
      exact ⟨rfl, HL.out⟩
/-- Are there so few fields, and are they so short? -/
def fewF (l : List Fld) : Bool := decide (l.length ≤ 40) && l.all fun f => decide (f.1.size ≤ 100 ∧ f.2.size ≤ 300)
end Go.Proofs.YtmoofcmmpemdcaaGreatDoor
namespace Go.Proofs.YtmoofcmmpemdcaaGreatDoor
open Go.RowKit
theorem fds_of {w : World} {A : Option Addr} {len cap : Nat} {l : List Fd} (h : Flds w (.slice A len cap) l) : Fds w A len l := by
  obtain ⟨p, c, hv, hc⟩ := h
  injection hv with h1 h2 h3
  subst h1
  refine ⟨h2.symm, fun h0 => ?_⟩
  obtain ⟨b, off, hp, c0, _⟩ := hc 0 (by omega)
  refine ⟨b, off, hp, World.block_lt_of_cell? _ _ c0, fun i g hg => ?_⟩
  obtain ⟨hi, hgi⟩ := List.getElem?_eq_some_iff.1 hg
  obtain ⟨b2, off2, hp2, e0, e1⟩ := hc i hi
  rw [hp] at hp2
  injection hp2 with hp2
  injection hp2 with q1 q2
  subst q1 q2
  rw [hgi] at e0 e1
  rw [Nat.mul_comm i 2]
  exact ⟨e0, e1⟩
/-- A head's text, without its last line's end. -/
def printA (o : ByteArray) (l : List Fd) : ByteArray := l.foldl (fun o f => o ++ frow f) o
def printB (m t : ByteArray) (k n : Int) (r : ByteArray) (l : List Fd) : ByteArray := printA (lineB m t k n r ++ crlf) l ++ crlf
theorem printA_snoc (o : ByteArray) (l : List Fd) (f : Fd) : printA o (l ++ [f]) = printA o l ++ frow f := by unfold printA; rw [List.foldl_append]; rfl
theorem printA_size (o : ByteArray) (l : List Fd) (hs : ∀ g ∈ l, g.1.size ≤ 1000 ∧ g.2.size ≤ 1000) (ho : o.size ≤ 4002) : ∀ k, k ≤ l.length → (printA o (l.take k)).size ≤ 4002 + 2004 * k
  | 0, _ => by rw [List.take_zero]; exact ho
  | k + 1, h => by
    have h1 := printA_size o l hs ho k (by omega)
    rw [List.take_succ_eq_append_getElem (by omega), printA_snoc, ByteArray.size_append]
    have h2 := frow_size (l[k]'(by omega))
    have h3 := hs (l[k]'(by omega)) (List.getElem_mem _)
    omega
theorem lineB_size (m t r : ByteArray) (k n : Int) (hm : m.size ≤ 1000) (ht : t.size ≤ 1000) (hr : r.size ≤ 1000) (hn : -9223372036854775808 ≤ n) (hn' : n ≤ 9223372036854775807) : (lineB m t k n r).size ≤ 4000 := by
  unfold lineB
  split
  · have hp := padB_size n hn hn'
    simp only [ByteArray.size_append, verB_size]
    have : sp1.size = 1 := rfl
    omega
  · simp only [ByteArray.size_append, verB_size]
    have : sp1.size = 1 := rfl
    omega
/-- The state of Print: the head's block, the Builder's. -/
structure HpSt (w : World) (R : Array Value) (v : World) (T : ByteArray) : Prop where
  k : Blk v w.heap.size R 24
  u : Below w.heap.size w v
  z : w.heap.size + 2 ≤ v.heap.size
  bd : ∃ p q, Own.Bld v (w.heap.size + 2) (w.heap.size + 1) p q T.data.toList
theorem HpSt.call {w v v' : World} {R : Array Value} {T : ByteArray} (h : HpSt w R v T) (hb : Below v.heap.size v v') : HpSt w R v' T := by
  obtain ⟨p, q, hbd⟩ := h.bd
  exact ⟨h.k.call hb, h.u.trans (hb.mono h.u.size), Nat.le_trans h.z hb.size, p, q, hbd.touch (P := fun _ => False) (Touch.of_below hb) id (fun _ _ => id)⟩
theorem HpSt.alloc_call {w v v' : World} {R : Array Value} {T : ByteArray} {o : Obj} (h : HpSt w R v T) (hb : Below (v.alloc o).heap.size (v.alloc o) v') : HpSt w R v' T := h.call (below_one hb)
theorem pr_touch {w v : World} {R : Array Value} {T : ByteArray} {P : Nat → Prop} {v' : World} (h : HpSt w R v T) (ht : Touch P v v') (hP : ∀ i, P i → i = w.heap.size + 1 ∨ w.heap.size + 2 ≤ i) : Blk v' w.heap.size R 24 ∧ Below w.heap.size w v' ∧ w.heap.size + 2 ≤ v'.heap.size := by
  refine ⟨h.k.touch ht (fun e => by have := hP _ e; omega), h.u.trans (ht.below (fun k _ hp => by have := hP _ hp; omega) h.u.size), Nat.le_trans h.z ht.size⟩
theorem pr_step {w v v' : World} {R : Array Value} {T : ByteArray} {T' : List UInt8} {S : ByteArray} {p q : Value} (h : HpSt w R v T) (ht : Touch (fun i => i = w.heap.size + 1 ∨ Own.Row v (w.heap.size + 2) i) v v') (hb : Own.Bld v' (w.heap.size + 2) (w.heap.size + 1) p q T') (hT : S.data.toList = T') : HpSt w R v' S := by
  subst hT
  obtain ⟨h1, h2, h3⟩ := pr_touch h ht (fun i hi => by
    rcases hi with hi | hi
    · exact Or.inl hi
    · exact Or.inr hi.1)
  exact ⟨h1, h2, h3, p, q, hb⟩
theorem pr_last {w v v' : World} {R : Array Value} {T : ByteArray} (h : HpSt w R v T) (ht : Touch (fun i => Own.Row v (w.heap.size + 2) i) v v') : Below w.heap.size w v' := (pr_touch h ht (fun i hi => Or.inr hi.1)).2.1
set_option maxRecDepth 100000 in
set_option maxHeartbeats 4000000 in
theorem hprint_any {w : World} {A : Option Addr} {len cap : Nat} {l : List Fd} (m t r : ByteArray) (kk nn : Int) (h : Fds w A len l) (hl : len ≤ 1000) (hs : ∀ g ∈ l, g.1.size ≤ 1000 ∧ g.2.size ≤ 1000) (hm : m.size ≤ 1000) (ht : t.size ≤ 1000) (hr : r.size ≤ 1000) (hn : -9223372036854775808 ≤ nn) (hn' : nn ≤ 9223372036854775807) :
    Calls Tryz.prog 27 #[.agg #[.string m, .string t, .int .i64 kk, .int .i64 nn, .string r, .slice A len cap]] w fun e w' => e = .returned (.string (printB m t kk nn r l)) ∧ Below w.heap.size w w' := by
  have hlen := h.1
  obtain ⟨L, hL⟩ : ∃ L, L = lineB m t kk nn r := ⟨_, rfl⟩
  have hLs : L.size ≤ 4000 := by rw [hL]; exact lineB_size m t r kk nn hm ht hr hn hn'
  obtain ⟨L2, hL2⟩ : ∃ x, x = L ++ ⟨#[13, 10]⟩ := ⟨_, rfl⟩
  have hL2s : L2.size = L.size + 2 := by rw [hL2, ByteArray.size_append]; rfl
  have hadd : ∀ W : World, (Op.stringOp .add L ⟨#[13, 10]⟩).run Tryz.prog W = .ok (.string L2) W := fun W => (run_string_add_sum (P := Tryz.prog) (w := W) L ⟨#[13, 10]⟩ (by show L.size + 2 ≤ _; omega)).trans (by rw [← hL2])
  have HPB : Hid (printB m t kk nn r l = printA L2 l ++ crlf) := by show _ = _; unfold printB; rw [hL2, hL]; rfl
  have HZ := Lib.hid (fun k (hk : k ≤ l.length) => printA_size L2 l hs (by omega : L2.size ≤ 4002) k hk)
  have H := Lib.hid h
  have HS := Lib.hid hs
  have KR := Lib.hid (Blk.new w #[.string m, .string t, .int .i64 kk, .int .i64 nn, .string r, .slice A len cap] 24)
  have HLN := Lib.hid (fun (W : World) => line_any m t r kk nn (.slice A len cap) (by omega) (by omega) (by omega) hn hn' W)
  rw [← hL] at HLN
  have KB := Lib.hid (show Blk ((w.alloc (.cells #[.string m, .string t, .int .i64 kk, .int .i64 nn, .string r, .slice A len cap] 24)).alloc (.cells #[.pointer none, .slice none 0 0] 102)) (w.heap.size + 1) #[.pointer none, .slice none 0 0] 102 from blk_al2 w _ _ _ _)
  have HL2S := Lib.hid hL2s
  have HLS := Lib.hid hLs
  clear h hs hL hL2 hm ht hr hn hn' hLs hL2s
  go_enter Tryz.func27, Tryz.ntmps27
  go_wp2_with (go_at_call 65; refine (HLN.out _).mono ?_; rintro e0 w0 ⟨rfl, hb0⟩; have HB0 := Lib.hid hb0; clear hb0)
  have hbd0 : Own.Bld w0 (w.heap.size + 2) (w.heap.size + 1) (.pointer none) (.slice none 0 0) [] := ⟨Or.inl rfl, KB.out.call HB0.out, ⟨rfl, Or.inl ⟨rfl, rfl⟩⟩, fun _ => rfl⟩
  have hz0 : w.heap.size + 2 ≤ w0.heap.size := by have := HB0.out.size; simp at this; omega
  have hkr0 := (KR.out.alloc (.cells #[.pointer none, .slice none 0 0] 102)).call HB0.out
  have hbl0 := below_two HB0.out
  refine (Own.writeString_any hbd0 (Nat.lt_succ_self _) hz0 L2 (by have h1 := HL2S.out; have h2 := HLS.out; simp; omega)).mono ?_
  rintro e1 w1 ⟨rfl, ⟨p1, v1, hb1⟩, ht1⟩
  have HS1 : Hid (HpSt w #[.string m, .string t, .int .i64 kk, .int .i64 nn, .string r, .slice A len cap] w1 L2) := pr_step (T := ⟨#[]⟩) ⟨hkr0, hbl0, hz0, _, _, hbd0⟩ ht1 hb1 (by simp)
  clear hbd0 hz0 hkr0 hbl0 hb1 ht1
  have x5 : w1.cell? ⟨w.heap.size, 5, none⟩ = some (.slice A len cap) := HS1.out.k.cell 5
  go_wp2_with fail
  clear x5
  go_loopw [14] (fun i wr => ∃ k : Nat, k ≤ len ∧ i = .int .i64 k ∧ HpSt w #[.string m, .string t, .int .i64 kk, .int .i64 nn, .string r, .slice A len cap] wr (printA L2 (l.take k))) (fun i _ => len - (intOf i).toNat)
  case atStart => exact ⟨0, by omega, rfl, HS1.out⟩
  case round =>
    obtain ⟨k, hk, rfl, hst⟩ := hrel
    have HST := Lib.hid hst
    have hz := HZ.out k (by omega)
    obtain ⟨O, hO⟩ : ∃ O, O = printA L2 (l.take k) := ⟨_, rfl⟩
    rw [← hO] at hz HST
    clear hst
    by_cases hlt : k < len
    · obtain ⟨b, off, rfl, hbw, hc⟩ := (H.out.below HST.out.u).2 (by omega)
      obtain ⟨g, hg⟩ : ∃ g, l[k]? = some g := ⟨l[k]'(by omega), List.getElem?_eq_getElem (by omega)⟩
      obtain ⟨c0, c1⟩ := hc k g hg
      have hge : l[k]'(by omega) = g := by
        rw [List.getElem?_eq_getElem (by omega)] at hg
        exact Option.some.inj hg
      have hgs := HS.out g (List.mem_of_getElem? hg)
      obtain ⟨n, v⟩ := g
      obtain ⟨X, hX⟩ : ∃ X, X = flineB n v := ⟨_, rfl⟩
      have hXs : X.size ≤ n.size + v.size + 2 := by rw [hX]; exact flineB_size n v
      have HX : Hid (∀ W : World, Calls Tryz.prog 63 #[.agg #[.string n, .string v]] W fun e w' => e = .returned (.string X) ∧ Below W.heap.size W w') := fun W => fline_at hX (by have := hgs.1; simp only at this; omega) (by have := hgs.2; simp only at this; omega) W
      simp only at c0 c1 hgs
      obtain ⟨P, hP⟩ : ∃ P, P = X ++ ⟨#[13, 10]⟩ := ⟨_, rfl⟩
      have hPs : P.size = X.size + 2 := by rw [hP, ByteArray.size_append]; rfl
      have a1 : ∀ W : World, (Op.stringOp .add X ⟨#[13, 10]⟩).run Tryz.prog W = .ok (.string P) W := fun W => (run_string_add_sum (P := Tryz.prog) (w := W) X ⟨#[13, 10]⟩ (by show X.size + 2 ≤ _; omega)).trans (by rw [← hP])
      have HN : Hid (O ++ P = printA L2 (l.take (k + 1))) := by
        show O ++ P = _
        rw [List.take_succ_eq_append_getElem (by omega), printA_snoc, hP, hO, hX, hge]; rfl
      have HLEN : Hid (O.data.toList.length + P.size ≤ 140737488355328) := by show _ ≤ _; rw [← Lib.size_eq]; omega
      have hki : (k : Int) < len := by omega
      clear hc hO hz hX hXs hP hPs hg hge hgs hbw
      go_wp2_with (first | (go_at_call 63; refine (HX.out _).mono ?_; rintro e' w2 ⟨rfl, hb⟩; have HS2 := Lib.hid (HST.out.alloc_call hb); clear hb c0 c1) | (go_at_call 64; obtain ⟨pp, vv, hbb⟩ := HS2.out.bd; refine (Own.writeString_any hbb (Nat.lt_succ_self _) HS2.out.z P HLEN.out).mono ?_; rintro e3 w3 ⟨rfl, ⟨p3, v3, hb3⟩, ht3⟩; have HS3 := Lib.hid (pr_step (S := O ++ P) HS2.out ht3 hb3 (by simp)); clear hb3 ht3 hbb))
      go_roundw
      case rel => exact ⟨k + 1, by omega, by go_num, by rw [← HN.out]; exact HS3.out⟩
      case measure => simp [intOf]; omega
    · obtain rfl : k = len := by omega
      have HR : Hid (printB m t kk nn r l = O ++ ⟨#[13, 10]⟩) := by show _ = _; rw [HPB.out, hO, List.take_of_length_le (by omega)]; rfl
      have HLEN : Hid (O.data.toList.length + (⟨#[13, 10]⟩ : ByteArray).size ≤ 140737488355328) := by show _ + 2 ≤ _; rw [← Lib.size_eq]; omega
      clear hO hz
      go_wp2_with (first | (go_at_call 64; obtain ⟨pp, vv, hbb⟩ := HST.out.bd; refine (Own.writeString_any hbb (Nat.lt_succ_self _) HST.out.z ⟨#[13, 10]⟩ HLEN.out).mono ?_; rintro e3 w3 ⟨rfl, ⟨p3, v3, hb3⟩, ht3⟩; have HS3 := Lib.hid (pr_step (S := O ++ ⟨#[13, 10]⟩) HST.out ht3 hb3 (by simp)); clear hb3 ht3 hbb) | (go_at_call 66; obtain ⟨pp, vv, hbb⟩ := HS3.out.bd; refine (Own.string_any hbb (Nat.lt_succ_self _) HS3.out.z _ rfl).mono ?_; rintro e4 w4 ⟨rfl, _, ht4⟩; have HU4 := Lib.hid (pr_last HS3.out ht4); clear ht4 hbb))
      go_ret
      rw [HR.out]
      exact ⟨rfl, HU4.out⟩
end Go.Proofs.YtmoofcmmpemdcaaGreatDoor
namespace Go.Proofs.YtmoofcmmpemdcaaGreatDoor
open Go.RowKit
/-- A parser that is fed, its blocks behind a bound. -/
theorem paP_below {w w1 : World} {N b g : Nat} {vl va : Value} (t : Touch (PaP b g vl va) w w1) (hb : N ≤ b) (hg : N ≤ g) (hvl : ∀ k, vl.ownBlock = some k → N ≤ k) (hva : ∀ k, va.ownBlock = some k → N ≤ k) (hN : N ≤ w.heap.size) : Below N w w1 :=
  t.below (fun k _ hp => by
    rcases hp with e | e | e | e
    · omega
    · omega
    · exact hvl k e
    · exact hva k e) hN
def lvS : ByteArray := ⟨#[71, 69, 84, 32, 47, 32, 72, 84, 84, 80, 47, 49, 46, 49, 13, 10, 72, 111, 115, 116, 58, 32, 97, 13, 10, 13, 10]⟩
def lvX : ByteArray := ⟨#[71, 69, 84, 32, 47, 32, 72, 84, 84, 80, 47, 49, 46, 49, 13, 10, 72, 111, 115, 116, 58, 32, 97, 13, 10, 13, 10, 120]⟩
def lvH : Hd := ⟨⟨#[71, 69, 84]⟩, ⟨#[47]⟩, 1, 0, ⟨#[]⟩, [(⟨#[72, 111, 115, 116]⟩, ⟨#[97]⟩)]⟩
set_option maxRecDepth 100000 in
theorem lv_n : (pRun 1 1000 0 lvX.data.toList (pa0 65536)).2 = 27 := by kernel_rfl
set_option maxRecDepth 100000 in
theorem lv_e : (pRun 1 1000 0 lvX.data.toList (pa0 65536)).1.e = 0 := by kernel_rfl
set_option maxRecDepth 100000 in
theorem lv_f : (pRun 1 1000 0 lvX.data.toList (pa0 65536)).1.fin = true := by kernel_rfl
set_option maxRecDepth 100000 in
theorem lv_h : (pRun 1 1000 0 lvX.data.toList (pa0 65536)).1.hd = lvH := by kernel_rfl
set_option maxRecDepth 100000 in
theorem lv_p : printB lvH.m lvH.t lvH.k lvH.n lvH.r lvH.fs = lvS := by kernel_rfl
set_option maxRecDepth 100000 in
theorem lv_p2 : printB ⟨#[71, 69, 84]⟩ ⟨#[47]⟩ 1 0 ⟨#[]⟩ [(⟨#[72, 111, 115, 116]⟩, ⟨#[97]⟩)] = ⟨#[71, 69, 84, 32, 47, 32, 72, 84, 84, 80, 47, 49, 46, 49, 13, 10, 72, 111, 115, 116, 58, 32, 97, 13, 10, 13, 10]⟩ := by kernel_rfl
theorem lv_small : ∀ g ∈ [((⟨#[72, 111, 115, 116]⟩, ⟨#[97]⟩) : Fd)], g.1.size ≤ 1000 ∧ g.2.size ≤ 1000 := by
  intro g hg
  rw [List.mem_singleton] at hg
  subst hg
  exact ⟨by decide, by decide⟩
set_option maxRecDepth 100000 in
theorem lv_print (W : World) (A : Option Addr) (c : Nat) (h : Fds W A 1 [(⟨#[72, 111, 115, 116]⟩, ⟨#[97]⟩)]) : Calls Tryz.prog 27 #[.agg #[.string ⟨#[71, 69, 84]⟩, .string ⟨#[47]⟩, .int .i64 1, .int .i64 0, .string ⟨#[]⟩, .slice A 1 c]] W fun e w' => e = .returned (.string ⟨#[71, 69, 84, 32, 47, 32, 72, 84, 84, 80, 47, 49, 46, 49, 13, 10, 72, 111, 115, 116, 58, 32, 97, 13, 10, 13, 10]⟩) ∧ Below W.heap.size W w' := by
  have h1 := hprint_any (cap := c) ⟨#[71, 69, 84]⟩ ⟨#[47]⟩ ⟨#[]⟩ 1 0 h (by decide) lv_small (by decide) (by decide) (by decide) (by decide) (by decide)
  rw [lv_p2] at h1
  exact h1
set_option maxRecDepth 100000 in
set_option maxHeartbeats 4000000 in
theorem hlives_any {mx : Int} (w : World) (hm : w.cell? ⟨0, 0, none⟩ = some (.int .i64 mx)) : Calls Tryz.prog 19 #[] w fun e w' => e = .returned (.bool true) ∧ Below w.heap.size w w' := by
  have HM := Lib.hid hm
  have HWD := Lib.hid (fun (W : World) => wide_any W)
  have HNW := Lib.hid (fun (W : World) => hnew_any 1 65536 1000 0 0 0 (by decide) (by decide) (Or.inl rfl) W)
  have HN3 := Lib.hid (fun (W : World) => hnew_wrong 3 65536 1000 0 0 0 (Or.inr ⟨by decide, by decide⟩) W)
  have HFD : Hid (∀ (W : World) (b g B : Nat), PaAt W b g B nilS nilS nilS 1 65536 1000 0 0 0 (pa0 65536) → W.cell? ⟨0, 0, none⟩ = some (.int .i64 mx) → Calls Tryz.prog 29 #[.pointer (some ⟨b, 0, none⟩), .string lvX] W fun e w' => e = .returned (.tuple #[.int .i64 27, .int .i64 0]) ∧ ∃ vl va vf p, PaAt w' b g B vl va vf 1 65536 1000 0 0 0 p ∧ (p.fin && p.e == 0) = true ∧ doneH p = lvH ∧ p.hd.fs.length ≤ 1000000 ∧ Touch (PaP b g nilS nilS) W w') := by
    intro W b g B hp hmx
    refine (pfeed_any hp (pa0_bd (by decide) (by decide)) ⟨by decide, by decide⟩ hmx lvX (by decide)).mono ?_
    rintro e w' ⟨rfl, vl, va, vf, hp', hbd, t, _, _⟩
    refine ⟨by rw [lv_n, lv_e]; rfl, vl, va, vf, _, hp', by rw [lv_f, lv_e]; rfl, by unfold doneH; rw [lv_f, lv_e, lv_h]; rfl, Nat.le_trans hbd.f (by decide), t⟩
  have HPR := Lib.hid (fun (W : World) (A : Option Addr) (c : Nat) (h : Fds W A 1 [(⟨#[72, 111, 115, 116]⟩, ⟨#[97]⟩)]) => lv_print W A c h)
  have hadd : ∀ W : World, (Op.stringOp .add ⟨#[71, 69, 84, 32, 47, 32, 72, 84, 84, 80, 47, 49, 46, 49, 13, 10, 72, 111, 115, 116, 58, 32, 97, 13, 10, 13, 10]⟩ ⟨#[120]⟩).run Tryz.prog W = .ok (.string lvX) W := fun W => (run_string_add_sum (P := Tryz.prog) (w := W) lvS ⟨#[120]⟩ (by decide)).trans rfl
  clear hm
  go_enter Tryz.func19, Tryz.ntmps19
  have hsz : (⟨#[71, 69, 84, 32, 47, 32, 72, 84, 84, 80, 47, 49, 46, 49, 13, 10, 72, 111, 115, 116, 58, 32, 97, 13, 10, 13, 10]⟩ : ByteArray).size = 27 := rfl
  generalize (⟨#[71, 69, 84, 32, 47, 32, 72, 84, 84, 80, 47, 49, 46, 49, 13, 10, 72, 111, 115, 116, 58, 32, 97, 13, 10, 13, 10]⟩ : ByteArray) = S at HPR hadd hsz ⊢
  have heq : (S.toList == S.toList) = true := by simp
  have HU : Hid (Below w.heap.size w w) := Below.refl _ _
  go_wp2_with (first
    | (go_at_call 28; refine (HWD.out _).mono ?_; rintro e1 w1 ⟨rfl, hb1⟩; have HU := Lib.hid (HU.out.trans (hb1.mono HU.out.size)); clear hb1)
    | (go_at_call 18; refine (HNW.out _).mono ?_; rintro e2 w2 ⟨rfl, hp2, hb2⟩; have S1 := Lib.hid HU.out.size; have HU := Lib.hid (HU.out.trans (hb2.mono HU.out.size)); have HM2 := Lib.hid (mx_below HM.out HU.out); have HP2 := Lib.hid hp2; clear hp2 hb2)
    | (go_at_call 29; refine (HFD.out _ _ _ _ HP2.out HM2.out).mono ?_; rintro e3 w3 ⟨rfl, vl, va, vf, p, hp3, hdn, hdo, hlen, t3⟩; have HDC := Lib.hid (hdone_any hp3); rw [hdn] at HDC; have HHC := Lib.hid (hhead_any hp3 hlen); rw [hdo] at HHC; have HU := Lib.hid (HU.out.trans (paP_below t3 (N := w.heap.size) (by have := S1.out; omega) (by have := S1.out; omega) (fun k hk => by cases hk) (fun k hk => by cases hk) HU.out.size)); clear hp3 hdn hdo hlen t3 HNW)
    | (go_at_call 22; refine HDC.out.mono ?_; rintro e4 w4 ⟨rfl, h4⟩; subst h4)
    | (go_at_call 24; refine HHC.out.mono ?_; rintro e5 w5 ⟨f5, rfl, ho5, hb5⟩; obtain ⟨p5, c5, rfl⟩ := own_slice ho5; have HU := Lib.hid (HU.out.trans (hb5.mono HU.out.size)); have HF5 := Lib.hid (fds_of ho5.flds); simp only [lvH, Hd.row, List.length_singleton] at HF5 ⊢; clear hb5 ho5)
    | (go_at_call 27; refine (HPR.out _ _ _ HF5.out).mono ?_; rintro e6 w6 ⟨rfl, hb6⟩; have HU := Lib.hid (HU.out.trans (hb6.mono HU.out.size)); clear hb6)
    | (go_at_call 18; refine (HN3.out _).mono ?_; rintro e7 w7 ⟨rfl, hb7⟩; have HU := Lib.hid (HU.out.trans (hb7.mono HU.out.size)); clear hb7))
  go_ret
  exact ⟨rfl, HU.out⟩
end Go.Proofs.YtmoofcmmpemdcaaGreatDoor
namespace Go.Proofs.YtmoofcmmpemdcaaGreatDoor
open Go.RowKit Go.ChangeShapes Go.WideShapes Go.Deep
theorem list5 {α : Type} (l : List α) (h : l.length = 5) : ∃ c0 c1 c2 c3 c4, l = [c0, c1, c2, c3, c4] := by
  match l, h with
  | [c0, c1, c2, c3, c4], _ => exact ⟨c0, c1, c2, c3, c4, rfl⟩
set_option maxRecDepth 100000 in
theorem open_limits {H : Type} {enc : TypeId × Value → H} {W : World} {base : Nat} {spare : Nat → Bool} {held : Bool} {v : Value} {x : DataW H × List MemPlace} {fuel : Nat} (hv : Value.okWide Tryz.prog W .any base 36 v)
    (hf : DataW.trod enc Tryz.prog W 0 spare held fuel 36 v.cells.toList = some x) : ∃ a b c d f, v = .agg #[.int .i64 a, .int .i64 b, .int .i64 c, .int .i64 d, .int .i64 f] ∧ (-9223372036854775808 ≤ a ∧ a ≤ 9223372036854775807) ∧ -9223372036854775808 ≤ b ∧ b ≤ 9223372036854775807 := by
  have oI : Tryz.prog.cellsOf 3 = 1 := by kernel_rfl
  obtain ⟨cs, rfl, hsz⟩ := okWide_struct Tryz.underlying36 hv
  have hC : Tryz.prog.cellsOf 36 = 5 := by kernel_rfl
  obtain ⟨l⟩ := cs
  obtain ⟨c0, c1, c2, c3, c4, rfl⟩ := list5 l (hsz.trans hC)
  obtain ⟨xs, n, _, hx, _, hlen, hg⟩ := DataW.trod_struct Tryz.underlying36 hf
  have hlen : xs.length = 5 := hlen
  obtain ⟨k0, rfl, h0⟩ := int_cell_at Tryz.underlying3 oI (o := 0) (i := 0) (x := c0) rfl (by omega) (hg 0 _ rfl)
  obtain ⟨k1, rfl, h1⟩ := int_cell_at Tryz.underlying3 oI (o := 1) (i := 1) (x := c1) rfl (by omega) (hg 1 _ rfl)
  obtain ⟨k2, rfl, _⟩ := int_cell_at Tryz.underlying3 oI (o := 2) (i := 2) (x := c2) rfl (by omega) (hg 2 _ rfl)
  obtain ⟨k3, rfl, _⟩ := int_cell_at Tryz.underlying3 oI (o := 3) (i := 3) (x := c3) rfl (by omega) (hg 3 _ rfl)
  obtain ⟨k4, rfl, _⟩ := int_cell_at Tryz.underlying3 oI (o := 4) (i := 4) (x := c4) rfl (by omega) (hg 4 _ rfl)
  exact ⟨k0, k1, k2, k3, k4, rfl, h0, h1⟩
section
variable {H : Type} {enc : TypeId × Value → H} {P : Program} {w : World}
theorem open_strs {t e : TypeId} {fuel : Nat} {v : Value} {x : DataW H × List MemPlace} (ht : P.underlying t = some (.slice e)) (he : P.underlying e = some .string) (hC : P.cellsOf e = 1)
    (h : DataW.trod enc P w 0 (fun _ => true) true fuel t [v] = some x) : CapOk v ∧ ∃ l, Strs w v l ∧ l.length ≤ 9223372036854775807 ∧ ∀ s ∈ l, s.size ≤ 9223372036854775807 := by
  rcases open_slice ht h with ⟨hcs, _⟩ | ⟨a, len, cap, m, n, D, Pl, hcs, _, hl, hm, hmm, _, hi⟩
  · simp only [List.cons.injEq, and_true] at hcs
    subst hcs
    exact ⟨Nat.le_refl _, [], Strs.nil _ _ _, by decide, fun s hs => by cases hs⟩
  simp only [List.cons.injEq, and_true] at hcs
  have hlm : len ≤ m := by rw [hmm]; split <;> omega
  have hel : ∀ i, i < len → ∃ s : ByteArray, w.cell? (a.add i) = some (.string s) ∧ s.size ≤ 9223372036854775807 := by
    intro i hil
    obtain ⟨cs', hc, ht'⟩ := hi i (by omega)
    rw [hC, Nat.mul_one] at hc
    obtain ⟨k, q, _, wk⟩ := DataW.trod_string he ht'
    obtain ⟨_, hcl, hat⟩ := World.cells?_some hc
    have a0 := hat 0 (by omega)
    rw [q] at a0
    rw [Go.Deep.add_add, Nat.add_zero] at a0
    unfold maxLen at wk
    exact ⟨k, a0, by omega⟩
  obtain ⟨f, hf⟩ : ∃ f : Nat → ByteArray, ∀ i, i < len → w.cell? (a.add i) = some (.string (f i)) ∧ (f i).size ≤ 9223372036854775807 :=
    ⟨fun i => if h : i < len then Classical.choose (hel i h) else ⟨#[]⟩, fun i h => by
      simp only [dif_pos h]
      exact Classical.choose_spec (hel i h)⟩
  subst hcs
  refine ⟨hl, (List.range len).map f, ⟨some a, cap, by simp, fun i hi => ?_⟩, by simp; unfold maxLen at hm; omega, fun s hs => ?_⟩
  · rw [List.length_map, List.length_range] at hi
    have h1 := (hf i hi).1
    have h0 := (hf 0 (by omega)).1
    obtain ⟨b, off, spot⟩ := a
    have hs : spot = none := by simpa [Addr.add] using World.cell?_spot h0
    subst hs
    refine ⟨b, off, rfl, ?_⟩
    rw [addr_add] at h1
    rw [List.getElem_map, List.getElem_range]
    exact h1
  · obtain ⟨i, hi, rfl⟩ := List.mem_map.1 hs
    rw [List.mem_range] at hi
    exact (hf i hi).2
end
end Go.Proofs.YtmoofcmmpemdcaaGreatDoor
