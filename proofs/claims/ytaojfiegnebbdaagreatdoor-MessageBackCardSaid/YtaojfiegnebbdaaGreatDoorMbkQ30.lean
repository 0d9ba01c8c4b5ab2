/- Texts packed for one claim, 30 of 52: Last Few Line. -/
import Derived.Test.YtaojfiegnebbdaaGreatDoorMbkQ28
import Derived.Test.YtaojfiegnebbdaaGreatDoorMbkQ29
import Derived.Test.YtaojfiegnebbdaaGreatDoorMbkQ4
import Derived.Test.YtaojfiegnebbdaaGreatDoorMbkQ7
set_option maxRecDepth 100000
set_option maxHeartbeats 16000000
set_option linter.unusedSimpArgs false
set_option linter.unusedVariables false
-- Last
namespace Go.Proofs.YtaojfiegnebbdaaGreatDoor
open Go.RowKit
abbrev Fld := ByteArray × ByteArray
def Fds (w : World) (A : Option Addr) (len : Nat) (l : List Fld) : Prop :=
 l.length = len ∧ (0 < len → ∃ b off, A = some ⟨b, off, none⟩ ∧ b < w.heap.size ∧ ∀ (i : Nat) (g : Fld), l[i]? = some g → w.cell? ⟨b, off + i * 2, none⟩ = some (.string g.1) ∧ w.cell? ⟨b, off + i * 2 + 1, none⟩ = some (.string g.2))
theorem Fds.below {w w' : World} {A : Option Addr} {len : Nat} {l : List Fld} (h : Fds w A len l) (hb : Below w.heap.size w w') : Fds w' A len l := by
 refine ⟨h.1, fun h0 => ?_⟩
 obtain ⟨b, off, e, hlt, hc⟩ := h.2 h0
 refine ⟨b, off, e, Nat.lt_of_lt_of_le hlt hb.size, fun i g hg => ?_⟩
 rw [hb.cell (p := ⟨b, off + i * 2, none⟩) hlt, hb.cell (p := ⟨b, off + i * 2 + 1, none⟩) hlt]
 exact hc i g hg
def frow (f : Fld) : ByteArray := flineB f.1 f.2 ++ crlf
def lastA (l : List Fld) : ByteArray := l.foldl (fun o f => o ++ frow f) ⟨#[48, 13, 10]⟩
def lastB (l : List Fld) : ByteArray := lastA l ++ crlf
theorem lastA_snoc (l : List Fld) (f : Fld) : lastA (l ++ [f]) = lastA l ++ frow f := by unfold lastA; rw [List.foldl_append]; rfl
theorem cline_zero : clineB 0 = ⟨#[48, 13, 10]⟩ := by
 unfold clineB hexB
 rw [if_neg (by decide), if_neg (by decide), show (0 : Int).natAbs = 0 from rfl, figL_low (by decide)]
 rfl
theorem frow_size (f : Fld) : (frow f).size ≤ f.1.size + f.2.size + 4 := by
 have := flineB_size f.1 f.2
 unfold frow
 rw [ByteArray.size_append]
 show (flineB f.1 f.2).size + 2 ≤ _
 omega
theorem lastA_size (l : List Fld) (hs : ∀ g ∈ l, g.1.size ≤ 1000 ∧ g.2.size ≤ 1000) : ∀ k, k ≤ l.length → (lastA (l.take k)).size ≤ 3 + 2004 * k
 | 0, _ => by rw [List.take_zero]; exact nR _
 | k + 1, h => by
   have h1 := lastA_size l hs k (by omega)
   rw [List.take_succ_eq_append_getElem (by omega), lastA_snoc, ByteArray.size_append]
   have h2 := frow_size (l[k]'(by omega))
   have h3 := hs (l[k]'(by omega)) (List.getElem_mem _)
   omega
theorem fline_at {n v X : ByteArray} (hX : X = flineB n v) (hn : n.size ≤ 1000000000) (hv : v.size ≤ 1000000000) (w : World) : Calls Tryz.prog 77 #[.agg #[.string n, .string v]] w fun e w' => e = .returned (.string X) ∧ Below w.heap.size w w' := by
 subst hX; exact fline_any n v hn hv w
theorem last_any {w : World} {A : Option Addr} {len cap : Nat} {l : List Fld} (h : Fds w A len l) (hl : len ≤ 1000) (hs : ∀ g ∈ l, g.1.size ≤ 1000 ∧ g.2.size ≤ 1000) :
 Calls Tryz.prog 75 #[.slice A len cap] w fun e w' => e = .returned (.string (lastB l)) ∧ Below w.heap.size w w' := by
 have hlen := h.1
 have H := lH h
 have HS := lH hs
 clear h hs
 have HC : Hid (∀ W : World, Calls Tryz.prog 113 #[.int .i64 0] W fun e w' => e = .returned (.string ⟨#[48, 13, 10]⟩) ∧ Below W.heap.size W w') := fun W => by
  have := cline_any 0 (by decide) (by decide) W
  rw [cline_zero] at this
  exact this
 go_enter Tryz.func75, Tryz.ntmps75
 go_wp2_with fail
 refine (HC.out _).mono ?_
 rintro e0 w0 ⟨rfl, hb0⟩
 have HB0 := lH hb0
 clear hb0
 go_wp2_with fail
 go_loopw [3, 9] (fun v i wr => ∃ k : Nat, k ≤ len ∧ i = .int .i64 k ∧ v = .string (lastA (l.take k)) ∧ Below w.heap.size w wr) (fun _ i _ => len - (intOf i).toNat)
 case atStart => exact ⟨0, by omega, rfl, rfl, HB0.out⟩
 case round =>
  obtain ⟨k, hk, rfl, rfl, hbel⟩ := hrel
  have HL := lH hbel
  have hz := lastA_size l HS.out k (by omega)
  obtain ⟨O, hO⟩ : ∃ O, O = lastA (l.take k) := ⟨_, rfl⟩
  rw [← hO] at hz
  rw [← hO]
  clear hbel
  by_cases hlt : k < len
  ·obtain ⟨b, off, rfl, hbw, hc⟩ := (H.out.below HL.out).2 (by omega)
   obtain ⟨g, hg⟩ : ∃ g, l[k]? = some g := ⟨l[k]'(by omega), List.getElem?_eq_getElem (by omega)⟩
   obtain ⟨c0, c1⟩ := hc k g hg
   have hge : l[k]'(by omega) = g := by
    rw [List.getElem?_eq_getElem (by omega)] at hg
    exact Option.some.inj hg
   have hgs := HS.out g (List.mem_of_getElem? hg)
   obtain ⟨n, v⟩ := g
   obtain ⟨X, hX⟩ : ∃ X, X = flineB n v := ⟨_, rfl⟩
   have hXs : X.size ≤ n.size + v.size + 2 := by rw [hX]; exact flineB_size n v
   have HX : Hid (∀ W : World, Calls Tryz.prog 77 #[.agg #[.string n, .string v]] W fun e w' => e = .returned (.string X) ∧ Below W.heap.size W w') := fun W => fline_at hX (by have := hgs.1; simp only at this; omega) (by have := hgs.2; simp only at this; omega) W
   simp only at c0 c1 hgs
   obtain ⟨P, hP⟩ : ∃ P, P = X ++ ⟨#[13, 10]⟩ := ⟨_, rfl⟩
   have hPs : P.size = X.size + 2 := by rw [hP, ByteArray.size_append]; rfl
   have a1 : ∀ W : World, (Op.stringOp .add X ⟨#[13, 10]⟩).run Tryz.prog W = .ok (.string P) W := fun W => (run_string_add_sum (P := Tryz.prog) (w := W) X ⟨#[13, 10]⟩ (by show X.size + 2 ≤ _; omega)).trans (by rw [← hP])
   have a2 := fun (W : World) => run_string_add_sum (P := Tryz.prog) (w := W) O P (by omega)
   have HN : Hid (O ++ P = lastA (l.take (k + 1))) := by
    show O ++ P = _
    rw [List.take_succ_eq_append_getElem (by omega), lastA_snoc, hP, hO, hX, hge]; rfl
   have hki : (k : Int) < len := by omega
   clear hc hO hz hX hXs hP hPs hg hge hgs hbw
   go_wp2_with fail
   refine (HX.out _).mono ?_
   rintro e' w2 ⟨rfl, hb⟩
   have HB2 := lH hb
   clear hb c0 c1
   go_wp2_with fail
   go_roundw
   case rel => exact ⟨k + 1, by omega, by go_num, by rw [HN.out], (HL.out.alloc HL.out.size _).trans (HB2.out.mono (by have := HL.out.size; simp; omega))⟩
   case measure => simp [intOf]; omega
  ·obtain rfl : k = len := by omega
   have a1 := fun (W : World) => run_string_add_sum (P := Tryz.prog) (w := W) O ⟨#[13, 10]⟩ (by show O.size + 2 ≤ _; omega)
   have HR : Hid (lastB l = O ++ ⟨#[13, 10]⟩) := by show lastB l = _; unfold lastB; rw [hO, List.take_of_length_le (by omega)]; rfl
   clear hO hz
   go_wp2_with fail
   go_ret
   rw [HR.out]
   exact ⟨rfl, HL.out⟩
def fewF (l : List Fld) : Bool := decide (l.length ≤ 40) && l.all fun f => decide (f.1.size ≤ 100 ∧ f.2.size ≤ 300)
end Go.Proofs.YtaojfiegnebbdaaGreatDoor
-- Few
namespace Go.Proofs.YtaojfiegnebbdaaGreatDoor
open Go.RowKit
theorem few_spec {l : List Fld} (h : fewF l = true) : l.length ≤ 40 ∧ ∀ g ∈ l, g.1.size ≤ 1000 ∧ g.2.size ≤ 1000 := by
 unfold fewF at h
 rw [Bool.and_eq_true, decide_eq_true_eq, List.all_eq_true] at h
 refine ⟨h.1, fun g hg => ?_⟩
 have := h.2 g hg
 rw [decide_eq_true_eq] at this
 omega
theorem few_any {w : World} {A : Option Addr} {len cap : Nat} {l : List Fld} (h : Fds w A len l) (hlm : len ≤ 9223372036854775807) :
 Calls Tryz.prog 38 #[.slice A len cap] w fun e w' => e = .returned (.bool (fewF l)) ∧ Below w.heap.size w w' := by
 have hlen := h.1
 have H := lH h
 clear h
 by_cases h40 : len ≤ 40
 ·have d0 : decide ((40 : Int) < len) = false := by rw [decide_eq_false_iff_not]; omega
  go_enter Tryz.func38, Tryz.ntmps38
  go_wp2_with fail
  go_loopw [10] (fun i wr => ∃ k : Nat, k ≤ len ∧ i = .int .i64 k ∧ ((l.take k).all fun f => decide (f.1.size ≤ 100 ∧ f.2.size ≤ 300)) = true ∧ Below w.heap.size w wr) (fun i _ => len - (intOf i).toNat)
  case atStart => exact ⟨0, by omega, rfl, rfl, Below.refl _ _⟩
  case round =>
   obtain ⟨k, hk, rfl, hall, hbel⟩ := hrel
   have HL := lH hbel
   have HA := lH hall
   clear hbel hall
   by_cases hlt : k < len
   ·obtain ⟨b, off, rfl, hbw, hc⟩ := (H.out.below HL.out).2 (by omega)
    obtain ⟨g, hg⟩ : ∃ g, l[k]? = some g := ⟨l[k]'(by omega), List.getElem?_eq_getElem (by omega)⟩
    obtain ⟨c0, c1⟩ := hc k g hg
    have hge : l[k]'(by omega) = g := by
     rw [List.getElem?_eq_getElem (by omega)] at hg
     exact Option.some.inj hg
    have HM := lH (List.mem_of_getElem? hg)
    obtain ⟨n, v⟩ := g
    simp only at c0 c1
    have hki : (k : Int) < len := by omega
    have no : ¬ (n.size ≤ 100 ∧ v.size ≤ 300) → Hid (fewF l = false) := fun hx => by
     show fewF l = false
     cases hf : fewF l
     ·rfl
     ·unfold fewF at hf
      rw [Bool.and_eq_true, List.all_eq_true] at hf
      have := hf.2 _ HM.out
      rw [decide_eq_true_eq] at this
      exact absurd this hx
    have yes : n.size ≤ 100 ∧ v.size ≤ 300 → Hid (((l.take (k + 1)).all fun f => decide (f.1.size ≤ 100 ∧ f.2.size ≤ 300)) = true) := fun hx => by
     show _ = true
     rw [List.take_succ_eq_append_getElem (by omega), List.all_append, HA.out, hge]
     simp only [List.all_cons, List.all_nil, Bool.and_true, Bool.true_and, decide_eq_true_eq]
     exact hx
    by_cases h1 : n.size ≤ 100
    ·have e1 : decide ((100 : Int) < n.size) = false := by rw [decide_eq_false_iff_not]; omega
     by_cases h2 : v.size ≤ 300
     ·have e2 : decide ((300 : Int) < v.size) = false := by rw [decide_eq_false_iff_not]; omega
      have HY := yes ⟨h1, h2⟩
      clear hc hg hge hbw no yes h1 h2
      go_wp2_with fail
      go_roundw
      case rel => exact ⟨k + 1, by omega, by go_num, HY.out, HL.out.alloc HL.out.size _⟩
      case measure => simp [intOf]; omega
     ·have e2 : (300 : Int) < v.size := by omega
      have HY := no (fun h => h2 h.2)
      clear hc hg hge hbw no yes h1 h2
      go_wp2_with fail
      go_ret
      rw [HY.out]
      exact ⟨rfl, HL.out.alloc HL.out.size _⟩
    ·have e1 : (100 : Int) < n.size := by omega
     have HY := no (fun h => h1 h.1)
     clear hc hg hge hbw no yes h1
     go_wp2_with fail
     go_ret
     rw [HY.out]
     exact ⟨rfl, HL.out.alloc HL.out.size _⟩
   ·obtain rfl : k = len := by omega
    have HY : Hid (fewF l = true) := by
     show fewF l = true
     unfold fewF
     rw [dT (by omega)]
     have := HA.out
     rw [List.take_of_length_le (by omega)] at this
     rw [this]; rfl
    go_wp2_with fail
    go_ret
    rw [HY.out]
    exact ⟨rfl, HL.out⟩
 ·have d0 : (40 : Int) < len := by omega
  have HY : Hid (fewF l = false) := by show fewF l = false; unfold fewF; rw [dF (by omega)]; rfl
  go_enter Tryz.func38, Tryz.ntmps38
  go_wp2_with fail
  go_ret
  rw [HY.out]
  exact ⟨rfl, Below.refl _ _⟩
end Go.Proofs.YtaojfiegnebbdaaGreatDoor
-- Line
namespace Go.Proofs.YtaojfiegnebbdaaGreatDoor
open Go.RowKit
def verB (k : Int) : ByteArray := if k ≤ 0 then ⟨#[72, 84, 84, 80, 47, 49, 46, 48]⟩ else ⟨#[72, 84, 84, 80, 47, 49, 46, 49]⟩
def sp1 : ByteArray := ⟨#[32]⟩
def lineB (m t : ByteArray) (k n : Int) (r : ByteArray) : ByteArray :=
 if m.size = 0 then verB k ++ sp1 ++ padB n 3 ++ sp1 ++ r else m ++ sp1 ++ t ++ sp1 ++ verB k
theorem verB_size (k : Int) : (verB k).size = 8 := by unfold verB; split <;> rfl
theorem sversion_at {k : Int} {V : ByteArray} (h : V = verB k) (w : World) : Calls Tryz.prog 114 #[.int .i64 k] w fun e w' => e = .returned (.string V) ∧ w = w' := by
 subst h; exact sversion_any k w
theorem pad3_at {n : Int} {p : ByteArray} (h : -9223372036854775808 ≤ n) (h' : n ≤ 9223372036854775807) (hp : p = padB n 3) (w : World) : Calls Tryz.prog 115 #[.int .i64 n, .int .i64 3] w fun e w' => e = .returned (.string p) ∧ Below w.heap.size w w' := by
 subst hp; exact pad_any n 3 h h' (by decide) (by decide) w
theorem padB_size (n : Int) (h : -9223372036854775808 ≤ n) (h' : n ≤ 9223372036854775807) : (padB n 3).size ≤ 90 := by
 have := textB_size n h h'
 unfold padB
 split
 ·omega
 ·rw [ByteArray.size_append, zerosB_size]; omega
theorem empty_list (s : ByteArray) : s.toList.isEmpty = decide (s.size = 0) := by
 rw [isEmpty_list, Bool.eq_iff_iff, decide_eq_true_eq, List.isEmpty_iff]
 constructor
 ·intro h
  have : s.data.toList.length = 0 := by rw [h]; rfl
  simpa using this
 ·intro h
  apply List.eq_nil_of_length_eq_zero
  simpa using h
theorem line_req (m t r : ByteArray) (k n : Int) (f : Value) (hm : m.size ≤ 1000000) (ht : t.size ≤ 1000000) (hr : r.size ≤ 1000000) (hn : -9223372036854775808 ≤ n) (hn' : n ≤ 9223372036854775807) (hmz : m.size ≠ 0) (w : World) :
 Calls Tryz.prog 78 #[.agg #[.string m, .string t, .int .i64 k, .int .i64 n, .string r, f]] w fun e w' => e = .returned (.string (lineB m t k n r)) ∧ Below w.heap.size w w' := by
 obtain ⟨V, hV⟩ : ∃ V, V = verB k := ⟨_, rfl⟩
 have hVs : V.size = 8 := by rw [hV]; exact verB_size k
 obtain ⟨p, hp⟩ : ∃ p, p = padB n 3 := ⟨_, rfl⟩
 have hps : p.size ≤ 90 := by rw [hp]; exact padB_size n hn hn'
 have hss : sp1.size = 1 := rfl
 obtain ⟨S, hS⟩ : ∃ S, S = sp1 := ⟨_, rfl⟩
 have hSs : S.size = 1 := by rw [hS]; rfl
 obtain ⟨A1, hA1⟩ : ∃ A, A = m ++ S := ⟨_, rfl⟩
 have hs1 : A1.size = m.size + S.size := by rw [hA1, ByteArray.size_append]
 obtain ⟨A2, hA2⟩ : ∃ A, A = A1 ++ t := ⟨_, rfl⟩
 have hs2 : A2.size = A1.size + t.size := by rw [hA2, ByteArray.size_append]
 obtain ⟨A3, hA3⟩ : ∃ A, A = A2 ++ S := ⟨_, rfl⟩
 have hs3 : A3.size = A2.size + S.size := by rw [hA3, ByteArray.size_append]
 obtain ⟨A4, hA4⟩ : ∃ A, A = A3 ++ V := ⟨_, rfl⟩
 have hs4 : A4.size = A3.size + V.size := by rw [hA4, ByteArray.size_append]
 have HR : Hid (lineB m t k n r = A4) := by show lineB m t k n r = A4; unfold lineB; rw [if_neg hmz, hA4, hA3, hA2, hA1, hS, hV]
 have hadd1 : ∀ W : World, (Op.stringOp .add m S).run Tryz.prog W = .ok (.string A1) W := fun W => (run_string_add_sum (P := Tryz.prog) (w := W) m S (by omega)).trans (by rw [← hA1])
 have hadd2 : ∀ W : World, (Op.stringOp .add A1 t).run Tryz.prog W = .ok (.string A2) W := fun W => (run_string_add_sum (P := Tryz.prog) (w := W) A1 t (by omega)).trans (by rw [← hA2])
 have hadd3 : ∀ W : World, (Op.stringOp .add A2 S).run Tryz.prog W = .ok (.string A3) W := fun W => (run_string_add_sum (P := Tryz.prog) (w := W) A2 S (by omega)).trans (by rw [← hA3])
 have hadd4 : ∀ W : World, (Op.stringOp .add A3 V).run Tryz.prog W = .ok (.string A4) W := fun W => (run_string_add_sum (P := Tryz.prog) (w := W) A3 V (by omega)).trans (by rw [← hA4])
 have hadd1' : ∀ W : World, (Op.stringOp .add m ⟨#[32]⟩).run Tryz.prog W = .ok (.string A1) W := by rw [hS] at hadd1; exact hadd1
 clear hadd1
 have hadd3' : ∀ W : World, (Op.stringOp .add A2 ⟨#[32]⟩).run Tryz.prog W = .ok (.string A3) W := by rw [hS] at hadd3; exact hadd3
 clear hadd3
 have hme : m.toList.isEmpty = false := by rw [empty_list]; exact dF hmz
 obtain ⟨I, hIe⟩ : ∃ I : World → Prop, I = fun v => Blk v w.heap.size #[.string m, .string t, .int .i64 k, .int .i64 n, .string r, f] 34 ∧ Below w.heap.size w v := ⟨_, rfl⟩
 have HIO := lH (show ∀ v, I v → Blk v w.heap.size #[.string m, .string t, .int .i64 k, .int .i64 n, .string r, f] 34 ∧ Below w.heap.size w v by rw [hIe]; exact fun _ h => h)
 have HIM : Hid (∀ v v', I v → Below v.heap.size v v' → I v') := by
  show ∀ v v', I v → Below v.heap.size v v' → I v'
  rw [hIe]
  exact fun v v' h hb => ⟨h.1.call hb, h.2.trans (hb.mono h.2.size)⟩
 have hI0 : I (w.alloc (.cells #[.string m, .string t, .int .i64 k, .int .i64 n, .string r, f] 34)).drew := by rw [hIe]; exact ⟨(Blk.new _ _ _).drew, ((Below.refl _ _).alloc (nR _) _).drew⟩
 have NI : Nonempty (Cl I) := ⟨⟨_, hI0⟩⟩
 have HI0 := lH hI0
 have q0 : ∀ s : Cl I, s.val.cell? ⟨w.heap.size, 0, none⟩ = some (.string m) := fun s => (HIO.out _ s.ok).1.cell 0
 have q1 : ∀ s : Cl I, s.val.cell? ⟨w.heap.size, 1, none⟩ = some (.string t) := fun s => (HIO.out _ s.ok).1.cell 1
 have q2 : ∀ s : Cl I, s.val.cell? ⟨w.heap.size, 2, none⟩ = some (.int .i64 k) := fun s => (HIO.out _ s.ok).1.cell 2
 have q3 : ∀ s : Cl I, s.val.cell? ⟨w.heap.size, 3, none⟩ = some (.int .i64 n) := fun s => (HIO.out _ s.ok).1.cell 3
 have q4 : ∀ s : Cl I, s.val.cell? ⟨w.heap.size, 4, none⟩ = some (.string r) := fun s => (HIO.out _ s.ok).1.cell 4
 have HV := lH hV
 have HP := lH hp
 have HN := lH hn
 have HN' := lH hn'
 clear hA1 hs1 hA2 hs2 hA3 hs3 hA4 hs4 hV hp hps hss hSs hVs hS hIe hI0 hm ht hr hn hn' hmz
 go_enter Tryz.func78, Tryz.ntmps78
 go_wp2_with fail
 refine wp_region_cl HI0.out (by kernel_rfl) (by kernel_rfl) ?_
 repeat go_big_quiet_step ((first
  | (go_at_call 114; exact Calls.cl_same (sversion_at HV.out _))))
 refine wpQuiet_nil ?_
 rintro _ ⟨s, rfl⟩
 go_wp2_with fail
 go_ret
 rw [HR.out]
 exact ⟨rfl, (HIO.out _ s.ok).2⟩
theorem line_stat (m t r : ByteArray) (k n : Int) (f : Value) (hm : m.size ≤ 1000000) (ht : t.size ≤ 1000000) (hr : r.size ≤ 1000000) (hn : -9223372036854775808 ≤ n) (hn' : n ≤ 9223372036854775807) (hmz : m.size = 0) (w : World) :
 Calls Tryz.prog 78 #[.agg #[.string m, .string t, .int .i64 k, .int .i64 n, .string r, f]] w fun e w' => e = .returned (.string (lineB m t k n r)) ∧ Below w.heap.size w w' := by
 obtain ⟨V, hV⟩ : ∃ V, V = verB k := ⟨_, rfl⟩
 have hVs : V.size = 8 := by rw [hV]; exact verB_size k
 obtain ⟨p, hp⟩ : ∃ p, p = padB n 3 := ⟨_, rfl⟩
 have hps : p.size ≤ 90 := by rw [hp]; exact padB_size n hn hn'
 have hss : sp1.size = 1 := rfl
 obtain ⟨S, hS⟩ : ∃ S, S = sp1 := ⟨_, rfl⟩
 have hSs : S.size = 1 := by rw [hS]; rfl
 obtain ⟨A1, hA1⟩ : ∃ A, A = V ++ S := ⟨_, rfl⟩
 have hs1 : A1.size = V.size + S.size := by rw [hA1, ByteArray.size_append]
 obtain ⟨A2, hA2⟩ : ∃ A, A = A1 ++ p := ⟨_, rfl⟩
 have hs2 : A2.size = A1.size + p.size := by rw [hA2, ByteArray.size_append]
 obtain ⟨A3, hA3⟩ : ∃ A, A = A2 ++ S := ⟨_, rfl⟩
 have hs3 : A3.size = A2.size + S.size := by rw [hA3, ByteArray.size_append]
 obtain ⟨A4, hA4⟩ : ∃ A, A = A3 ++ r := ⟨_, rfl⟩
 have hs4 : A4.size = A3.size + r.size := by rw [hA4, ByteArray.size_append]
 have HR : Hid (lineB m t k n r = A4) := by show lineB m t k n r = A4; unfold lineB; rw [if_pos hmz, hA4, hA3, hA2, hA1, hS, hV, hp]
 have hadd1 : ∀ W : World, (Op.stringOp .add V S).run Tryz.prog W = .ok (.string A1) W := fun W => (run_string_add_sum (P := Tryz.prog) (w := W) V S (by omega)).trans (by rw [← hA1])
 have hadd2 : ∀ W : World, (Op.stringOp .add A1 p).run Tryz.prog W = .ok (.string A2) W := fun W => (run_string_add_sum (P := Tryz.prog) (w := W) A1 p (by omega)).trans (by rw [← hA2])
 have hadd3 : ∀ W : World, (Op.stringOp .add A2 S).run Tryz.prog W = .ok (.string A3) W := fun W => (run_string_add_sum (P := Tryz.prog) (w := W) A2 S (by omega)).trans (by rw [← hA3])
 have hadd4 : ∀ W : World, (Op.stringOp .add A3 r).run Tryz.prog W = .ok (.string A4) W := fun W => (run_string_add_sum (P := Tryz.prog) (w := W) A3 r (by omega)).trans (by rw [← hA4])
 have hadd1' : ∀ W : World, (Op.stringOp .add V ⟨#[32]⟩).run Tryz.prog W = .ok (.string A1) W := by rw [hS] at hadd1; exact hadd1
 clear hadd1
 have hadd3' : ∀ W : World, (Op.stringOp .add A2 ⟨#[32]⟩).run Tryz.prog W = .ok (.string A3) W := by rw [hS] at hadd3; exact hadd3
 clear hadd3
 have hme : m.toList.isEmpty = true := by rw [empty_list]; exact dT hmz
 obtain ⟨I, hIe⟩ : ∃ I : World → Prop, I = fun v => Blk v w.heap.size #[.string m, .string t, .int .i64 k, .int .i64 n, .string r, f] 34 ∧ Below w.heap.size w v := ⟨_, rfl⟩
 have HIO := lH (show ∀ v, I v → Blk v w.heap.size #[.string m, .string t, .int .i64 k, .int .i64 n, .string r, f] 34 ∧ Below w.heap.size w v by rw [hIe]; exact fun _ h => h)
 have HIM : Hid (∀ v v', I v → Below v.heap.size v v' → I v') := by
  show ∀ v v', I v → Below v.heap.size v v' → I v'
  rw [hIe]
  exact fun v v' h hb => ⟨h.1.call hb, h.2.trans (hb.mono h.2.size)⟩
 have hI0 : I (w.alloc (.cells #[.string m, .string t, .int .i64 k, .int .i64 n, .string r, f] 34)).drew := by rw [hIe]; exact ⟨(Blk.new _ _ _).drew, ((Below.refl _ _).alloc (nR _) _).drew⟩
 have NI : Nonempty (Cl I) := ⟨⟨_, hI0⟩⟩
 have HI0 := lH hI0
 have q0 : ∀ s : Cl I, s.val.cell? ⟨w.heap.size, 0, none⟩ = some (.string m) := fun s => (HIO.out _ s.ok).1.cell 0
 have q1 : ∀ s : Cl I, s.val.cell? ⟨w.heap.size, 1, none⟩ = some (.string t) := fun s => (HIO.out _ s.ok).1.cell 1
 have q2 : ∀ s : Cl I, s.val.cell? ⟨w.heap.size, 2, none⟩ = some (.int .i64 k) := fun s => (HIO.out _ s.ok).1.cell 2
 have q3 : ∀ s : Cl I, s.val.cell? ⟨w.heap.size, 3, none⟩ = some (.int .i64 n) := fun s => (HIO.out _ s.ok).1.cell 3
 have q4 : ∀ s : Cl I, s.val.cell? ⟨w.heap.size, 4, none⟩ = some (.string r) := fun s => (HIO.out _ s.ok).1.cell 4
 have HV := lH hV
 have HP := lH hp
 have HN := lH hn
 have HN' := lH hn'
 clear hA1 hs1 hA2 hs2 hA3 hs3 hA4 hs4 hV hp hps hss hSs hVs hS hIe hI0 hm ht hr hn hn' hmz
 go_enter Tryz.func78, Tryz.ntmps78
 go_wp2_with fail
 refine wp_region_cl HI0.out (by kernel_rfl) (by kernel_rfl) ?_
 repeat go_big_quiet_step ((first
  | (go_at_call 114; exact Calls.cl_same (sversion_at HV.out _))
  | (go_at_call 115; exact Calls.cl_of ((pad3_at HN.out HN'.out HP.out _).mono fun _ _ ⟨a, b⟩ => ⟨a, HIM.out _ _ (Cl.ok _) b⟩))))
 refine wpQuiet_nil ?_
 rintro _ ⟨s, rfl⟩
 go_wp2_with fail
 go_ret
 rw [HR.out]
 exact ⟨rfl, (HIO.out _ s.ok).2⟩
theorem line_any (m t r : ByteArray) (k n : Int) (f : Value) (hm : m.size ≤ 1000000) (ht : t.size ≤ 1000000) (hr : r.size ≤ 1000000) (hn : -9223372036854775808 ≤ n) (hn' : n ≤ 9223372036854775807) (w : World) :
 Calls Tryz.prog 78 #[.agg #[.string m, .string t, .int .i64 k, .int .i64 n, .string r, f]] w fun e w' => e = .returned (.string (lineB m t k n r)) ∧ Below w.heap.size w w' := by
 by_cases h : m.size = 0
 ·exact line_stat m t r k n f hm ht hr hn hn' h w
 ·exact line_req m t r k n f hm ht hr hn hn' h w
end Go.Proofs.YtaojfiegnebbdaaGreatDoor