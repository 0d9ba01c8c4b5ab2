/- Texts packed for one claim, 2 of 45: Base Same Civil CivilW CivilD Reason ReasonR RefHead RefStat CivilR CivilS Held. -/
import Derived.Test.YtcpjkemjpgggcaaGreatDoorProg
import Derived.WalkKit
import Derived.WalkSpells
import Derived.WalkLawsBesides
import Derived.Lib.Hide
import Derived.Deep.QuietTactic
import Derived.BigQuiet
import Derived.StillTailTactics
import Derived.Deep.RegionHeld3
import Derived.Deep.LoopGhost
import Derived.Deep.DeepFit
import Derived.Handy
import Derived.PlainAid
import Derived.Outline
set_option linter.unusedSimpArgs false
set_option linter.unusedVariables false
-- Base
namespace Go.Proofs.YtcpjkemjpgggcaaGreatDoor
open Go.RowKit
theorem bcell {W w1 : World} (hb : Below W.heap.size W w1) : (∀ b o, b < W.heap.size → w1.cell? ⟨b, o, none⟩ = W.cell? ⟨b, o, none⟩) :=
  fun b o h => hb.cell (p := ⟨b, o, none⟩) h
theorem bfroz {W w1 : World} (hb : Below W.heap.size W w1) : (∀ b o, b < W.heap.size → w1.frozen? ⟨b, o, none⟩ = W.frozen? ⟨b, o, none⟩) :=
  fun b o h => hb.frozen (p := ⟨b, o, none⟩) h
theorem addr_add (b off i : Nat) : (⟨b, off, none⟩ : Addr).add i = ⟨b, off + i, none⟩ := by
  unfold Addr.add; split <;> simp_all
/-- w' has grown out of w, and below B nothing has turned; B lies within w'. -/
def Up (B : Nat) (w w' : World) : Prop := Below B w w' ∧ B ≤ w'.heap.size
theorem Up.refl {B : Nat} {w : World} (h : B ≤ w.heap.size) : Up B w w := ⟨Below.refl _ _, h⟩
theorem Up.alloc {B : Nat} {a w : World} (h : Up B a w) (o : Obj) : Up B a (w.alloc o) := ⟨h.1.alloc h.2 o, by have := h.2; simp; omega⟩
theorem Up.setCell {B : Nat} {a w : World} (h : Up B a w) {p : Addr} (hp : B ≤ p.block) (u : Value) : Up B a (w.setCell p u) := ⟨h.1.setCell hp u, by have := h.2; simpa using this⟩
theorem Up.drew {B : Nat} {a w : World} (h : Up B a w) : Up B a w.drew := ⟨h.1.drew, h.2⟩
theorem Up.call {B : Nat} {a w w' : World} (h : Up B a w) (hb : Below w.heap.size w w') : Up B a w' := ⟨h.1.trans (hb.mono h.2), Nat.le_trans h.2 hb.size⟩
/-- Block g is just the cells cs, none of them frozen. -/
def Blk (w : World) (g : Nat) (cs : Array Value) (t : TypeId) : Prop := w.heap[g]? = some (.cells cs t (0, 0))
section
variable {w w' : World} {g : Nat} {t : TypeId} {cs : Array Value}
theorem Blk.lt (h : Blk w g cs t) : g < w.heap.size := by
  unfold Blk at h
  rcases Nat.lt_or_ge g w.heap.size with h1 | h1
  · exact h1
  · rw [Array.getElem?_eq_none h1] at h; cases h
theorem Blk.cell (h : Blk w g cs t) (i : Nat) : w.cell? ⟨g, i, none⟩ = cs[i]? := by
  unfold Blk at h
  simp [World.cell?, h]
theorem Blk.froz (h : Blk w g cs t) (i : Nat) : w.frozen? ⟨g, i, none⟩ = false := by
  unfold Blk at h
  simp [World.frozen?, h]
theorem Blk.new (w : World) (cs : Array Value) (t : TypeId) : Blk (w.alloc (.cells cs t)) w.heap.size cs t := heap_alloc_new w _
theorem Blk.new' {n : Nat} (h : n = w.heap.size) : Blk (w.alloc (.cells cs t)) n cs t := h ▸ heap_alloc_new w _
theorem Blk.drew (h : Blk w g cs t) : Blk w.drew g cs t := h
theorem Blk.alloc (h : Blk w g cs t) (o : Obj) : Blk (w.alloc o) g cs t := (Below.heap_alloc w o g h.lt).trans h
theorem Blk.set (h : Blk w g cs t) (i : Nat) (u : Value) : Blk (w.setCell ⟨g, i, none⟩ u) g (cs.setIfInBounds i u) t := by
  unfold Blk at h ⊢
  simp [World.setCell, Array.getElem?_modify, h]
theorem Blk.far (h : Blk w g cs t) {p : Addr} (hp : g ≠ p.block) (u : Value) : Blk (w.setCell p u) g cs t := (Below.heap_setCell w p u g hp).trans h
theorem Blk.below {B : Nat} (h : Blk w g cs t) (hb : Below B w w') (hg : g < B) : Blk w' g cs t := (hb.block g hg).trans h
theorem Blk.call (h : Blk w g cs t) (hb : Below w.heap.size w w') : Blk w' g cs t := h.below hb h.lt
end
/-- w' has grown out of w, and of the old blocks only those of P may have turned. -/
structure Touch (P : Nat → Prop) (w w' : World) : Prop where
  os : w'.os = w.os
  tape : w'.tape = w.tape
  output : w'.output = w.output
  size : w.heap.size ≤ w'.heap.size
  block : ∀ k, k < w.heap.size → ¬ P k → w'.heap[k]? = w.heap[k]?
section
variable {P Q : Nat → Prop} {w w1 w2 : World} {B g : Nat} {cs : Array Value} {t : TypeId}
theorem Touch.refl (P : Nat → Prop) (w : World) : Touch P w w := ⟨rfl, rfl, rfl, Nat.le_refl _, fun _ _ _ => rfl⟩
theorem Touch.trans (h : Touch P w w1) (k : Touch P w1 w2) : Touch P w w2 :=
  ⟨k.os.trans h.os, k.tape.trans h.tape, k.output.trans h.output, Nat.le_trans h.size k.size, fun i hi hp => (k.block i (Nat.lt_of_lt_of_le hi h.size) hp).trans (h.block i hi hp)⟩
theorem Touch.mono (h : Touch P w w1) (hPQ : ∀ k, k < w.heap.size → P k → Q k) : Touch Q w w1 := ⟨h.os, h.tape, h.output, h.size, fun k hk hq => h.block k hk fun hp => hq (hPQ k hk hp)⟩
theorem Touch.drew (h : Touch P w w1) : Touch P w w1.drew := ⟨h.os, h.tape, h.output, h.size, h.block⟩
theorem Touch.drewN (h : Touch P w w1) (n : Nat) : Touch P w (w1.drewN n) := ⟨h.os, h.tape, h.output, h.size, h.block⟩
theorem Touch.setCell (h : Touch P w w1) {p : Addr} (hp : P p.block) (u : Value) : Touch P w (w1.setCell p u) :=
  h.trans ⟨rfl, rfl, rfl, by simp [World.setCell], fun k _ hk => Below.heap_setCell _ _ _ _ (fun e => hk (e ▸ hp))⟩
theorem Touch.alloc (h : Touch P w w1) (o : Obj) : Touch P w (w1.alloc o) :=
  h.trans ⟨rfl, rfl, rfl, by simp, fun k hk _ => Below.heap_alloc _ _ _ hk⟩
theorem Touch.setRow (h : Touch P w w1) {g : Nat} (hp : P g) (cs : Array Value) : Touch P w (w1.setRow g cs) :=
  h.trans ⟨rfl, rfl, rfl, by simp [World.setRow], fun k _ hk => setRow_other _ _ _ _ (fun e => hk (e ▸ hp))⟩
theorem Touch.below (h : Touch P w w1) (hB : ∀ k, k < w.heap.size → P k → B ≤ k) (hw : B ≤ w.heap.size) : Below B w w1 := ⟨h.os, h.tape, h.output, h.size, fun k hk => h.block k (by omega) fun hp => by have := hB k (by omega) hp; omega⟩
theorem Touch.of_below (h : Below w.heap.size w w1) : Touch P w w1 := ⟨h.os, h.tape, h.output, h.size, fun k hk _ => h.block k hk⟩
theorem Blk.touch (h : Blk w g cs t) (hb : Touch P w w1) (hg : ¬ P g) : Blk w1 g cs t := (hb.block g h.lt hg).trans h
theorem Blk.row (h : Blk w g cs t) (ds : Array Value) : Blk (w.setRow g ds) g ds t := setRow_heap w g cs ds t (0, 0) h
theorem Blk.row_far (h : Blk w g cs t) {k : Nat} (hk : g ≠ k) (ds : Array Value) : Blk (w.setRow k ds) g cs t := (setRow_other w k g ds hk).trans h
theorem Blk.ne {g' : Nat} {t' : TypeId} {cs' : Array Value} (h : Blk w g cs t) (h' : Blk w g' cs' t') (hne : t ≠ t') : g ≠ g' := by
  rintro rfl
  unfold Blk at h h'
  rw [h] at h'
  injection h' with h'
  injection h' with _ ht
  exact hne ht
theorem Blk.drewN (h : Blk w g cs t) (n : Nat) : Blk (w.drewN n) g cs t := h
end
end Go.Proofs.YtcpjkemjpgggcaaGreatDoor
-- Same
namespace Go.Proofs.YtcpjkemjpgggcaaGreatDoor
open Go.RowKit
end Go.Proofs.YtcpjkemjpgggcaaGreatDoor
-- Civil
namespace Go.Proofs.YtcpjkemjpgggcaaGreatDoor
namespace Civ
/-- Is a year a leap year? -/
def leapB (y : Int) : Bool := decide (y % 400 = 0 ∨ (y % 4 = 0 ∧ y % 100 ≠ 0))
def wholeY (y : Int) : Int := if leapB y then 366 else 365
/-- How many days a month has. -/
def longM (y m : Int) : Int :=
  if m = 2 then (if leapB y then 29 else 28) else if m = 4 ∨ m = 6 ∨ m = 9 ∨ m = 11 then 30 else if m < 1 ∨ 12 < m then 0 else 31
/-- Days from 1970-01-01 to a year's first. -/
def dayY (y : Int) : Int := 365 * (y - 1970) + (y - 1) / 4 - (y - 1) / 100 + (y - 1) / 400 - 477
/-- Days ahead of a month, in its year. -/
def dayM (y m : Int) : Int :=
  if m ≤ 1 then 0 else if m = 2 then 31 else
    (if m = 3 then 59 else if m = 4 then 90 else if m = 5 then 120 else if m = 6 then 151 else if m = 7 then 181 else if m = 8 then 212 else if m = 9 then 243 else if m = 10 then 273 else if m = 11 then 304 else if m = 12 then 334 else 365) + (if leapB y then 1 else 0)
/-- The date of a day. -/
structure IsDate (n y m d : Int) : Prop where
  y1 : 1 ≤ y
  y2 : y ≤ 9999
  m1 : 1 ≤ m
  m2 : m ≤ 12
  d1 : 1 ≤ d
  d2 : d ≤ longM y m
  eq : n = dayY y + dayM y m + d - 1
theorem dayY_succ (y : Int) (h : 1 ≤ y) : dayY (y + 1) = dayY y + wholeY y := by
  unfold dayY wholeY leapB
  split <;> rename_i h1 <;> simp only [decide_eq_true_eq] at h1 <;> omega
theorem dayM_succ (y m : Int) (h1 : 1 ≤ m) (h2 : m ≤ 12) : dayM y (m + 1) = dayM y m + longM y m := by
  have hm : m = 1 ∨ m = 2 ∨ m = 3 ∨ m = 4 ∨ m = 5 ∨ m = 6 ∨ m = 7 ∨ m = 8 ∨ m = 9 ∨ m = 10 ∨ m = 11 ∨ m = 12 := by omega
  cases hl : leapB y <;> rcases hm with rfl | rfl | rfl | rfl | rfl | rfl | rfl | rfl | rfl | rfl | rfl | rfl <;> simp [dayM, longM, hl]
theorem dayM_one (y : Int) : dayM y 1 = 0 := by simp [dayM]
theorem dayM_last (y : Int) : dayM y 13 = wholeY y := by unfold wholeY dayM; cases leapB y <;> simp
theorem wholeY_range (y : Int) : 365 ≤ wholeY y ∧ wholeY y ≤ 366 := by unfold wholeY; split <;> omega
theorem longM_range (y m : Int) (h1 : 1 ≤ m) (h2 : m ≤ 12) : 28 ≤ longM y m ∧ longM y m ≤ 31 := by
  unfold longM
  repeat' split
  all_goals omega
theorem dayY_lt {a b : Int} (ha : 1 ≤ a) (h : a < b) : dayY a + 365 ≤ dayY b := by
  unfold dayY; omega
theorem dayY_le {a b : Int} (ha : 1 ≤ a) (h : a ≤ b) : dayY a ≤ dayY b := by
  unfold dayY; omega
theorem dayM_mono {y a b : Int} (ha : 1 ≤ a) (h : a < b) (hb : b ≤ 13) : dayM y a + longM y a ≤ dayM y b := by
  have h1 : a = 1 ∨ a = 2 ∨ a = 3 ∨ a = 4 ∨ a = 5 ∨ a = 6 ∨ a = 7 ∨ a = 8 ∨ a = 9 ∨ a = 10 ∨ a = 11 ∨ a = 12 := by omega
  have h2 : b = 2 ∨ b = 3 ∨ b = 4 ∨ b = 5 ∨ b = 6 ∨ b = 7 ∨ b = 8 ∨ b = 9 ∨ b = 10 ∨ b = 11 ∨ b = 12 ∨ b = 13 := by omega
  cases hl : leapB y <;> rcases h1 with rfl | rfl | rfl | rfl | rfl | rfl | rfl | rfl | rfl | rfl | rfl | rfl <;> rcases h2 with rfl | rfl | rfl | rfl | rfl | rfl | rfl | rfl | rfl | rfl | rfl | rfl <;> first | (exfalso; omega) | simp [dayM, longM, hl]
theorem IsDate.year {n y m d : Int} (h : IsDate n y m d) : dayY y ≤ n ∧ n < dayY (y + 1) := by
  have h1 := dayY_succ y h.y1
  have h2 : 0 ≤ dayM y m := by
    rcases (by have := h.m1; omega : m = 1 ∨ 1 < m) with rfl | hm
    · rw [dayM_one]; omega
    · have := dayM_mono (y := y) (a := 1) (by omega) hm (by have := h.m2; omega)
      rw [dayM_one] at this
      have := longM_range y 1 (by omega) (by omega)
      omega
  have h3 : dayM y m + longM y m ≤ wholeY y := by
    rw [← dayM_last y]
    exact dayM_mono h.m1 (by have := h.m2; omega) (by omega)
  have := h.d1; have := h.d2; have := h.eq
  omega
theorem IsDate.unique {n y m d y' m' d' : Int} (h : IsDate n y m d) (k : IsDate n y' m' d') : y = y' ∧ m = m' ∧ d = d' := by
  obtain ⟨a1, a2⟩ := h.year
  obtain ⟨b1, b2⟩ := k.year
  have hy : y = y' := by
    rcases (by omega : y = y' ∨ y < y' ∨ y' < y) with e | e | e
    · exact e
    · have := dayY_le (a := y + 1) (b := y') (by have := h.y1; omega) (by omega); omega
    · have := dayY_le (a := y' + 1) (b := y) (by have := k.y1; omega) (by omega); omega
  subst hy
  have e1 := h.eq; have e2 := k.eq
  have := h.d1; have := h.d2; have := k.d1; have := k.d2
  have hm : m = m' := by
    rcases (by omega : m = m' ∨ m < m' ∨ m' < m) with e | e | e
    · exact e
    · have := dayM_mono (y := y) h.m1 e (by have := k.m2; omega); omega
    · have := dayM_mono (y := y) k.m1 e (by have := h.m2; omega); omega
  subst hm
  exact ⟨rfl, rfl, by omega⟩
theorem march_day (y : Int) : dayY y + 59 + (if leapB y then 1 else 0) = 365 * y + y / 4 - y / 100 + y / 400 - 719468 := by
  unfold dayY leapB
  split <;> rename_i h1 <;> simp only [decide_eq_true_eq] at h1 <;> omega
theorem next_day (y : Int) : dayY (y + 1) = 365 * y + y / 4 - y / 100 + y / 400 - 719162 := by
  unfold dayY
  rw [Int.add_sub_cancel]
  omega
/-- The parts of a day's number, as the program takes them. -/
structure Parts (n q c f o r : Int) : Prop where
  c1 : 0 ≤ c
  c2 : c ≤ 3
  f1 : 0 ≤ f
  f2 : f ≤ 24
  o1 : 0 ≤ o
  o2 : o ≤ 3
  r1 : 0 ≤ r
  r2 : r ≤ 365
  q1 : 0 ≤ q
  q2 : q ≤ 25
  eq : n + 719468 = 146097 * q + 36524 * c + 1461 * f + 365 * o + r
  last : r = 365 → o = 3 ∧ (f = 24 → c = 3)
theorem parts_of {n q c f o r : Int} (hn : -719162 ≤ n) (hn' : n < 2932897) (hq : q = (n + 719468) / 146097) (hc : c = min ((n + 719468) % 146097 / 36524) 3) (hf : f = ((n + 719468) % 146097 - c * 36524) / 1461)
    (ho : o = min (((n + 719468) % 146097 - c * 36524 - f * 1461) / 365) 3) (hr : r = (n + 719468) % 146097 - c * 36524 - f * 1461 - o * 365) : Parts n q c f o r := by
  obtain ⟨N, hN⟩ : ∃ N, N = n + 719468 := ⟨_, rfl⟩
  rw [← hN] at hq hc hf ho hr
  obtain ⟨x, hx⟩ : ∃ x, x = N % 146097 := ⟨_, rfl⟩
  rw [← hx] at hc hf ho hr
  have e1 : N = 146097 * q + x := by omega
  have x1 : 0 ≤ x := by omega
  have x2 : x ≤ 146096 := by omega
  have q1 : 0 ≤ q := by omega
  have q2 : q ≤ 25 := by omega
  clear hq hx
  obtain ⟨y, hy⟩ : ∃ y, y = x - c * 36524 := ⟨_, rfl⟩
  rw [← hy] at hf ho hr
  have c1 : 0 ≤ c := by omega
  have c2 : c ≤ 3 := by omega
  have y1 : 0 ≤ y := by omega
  have y2 : y ≤ 36524 := by omega
  have y3 : c < 3 → y ≤ 36523 := by omega
  clear hc
  obtain ⟨u, hu⟩ : ∃ u, u = y - f * 1461 := ⟨_, rfl⟩
  rw [← hu] at ho hr
  have f1 : 0 ≤ f := by omega
  have f2 : f ≤ 24 := by omega
  have u1 : 0 ≤ u := by omega
  have u2 : u ≤ 1460 := by omega
  clear hf
  have o1 : 0 ≤ o := by omega
  have o2 : o ≤ 3 := by omega
  have r1 : 0 ≤ r := by omega
  have r2 : r ≤ 365 := by omega
  have r3 : o < 3 → r ≤ 364 := by omega
  exact ⟨c1, c2, f1, f2, o1, o2, r1, r2, q1, q2, by omega, fun h => ⟨by omega, fun h' => by omega⟩⟩
theorem Parts.sum {n q c f o r y : Int} (h : Parts n q c f o r) (hy : y = q * 400 + (c * 100 + f * 4 + o)) : 365 * y + y / 4 - y / 100 + y / 400 = n + 719468 - r := by
  obtain ⟨c1, c2, f1, f2, o1, o2, _, _, _, _, eq, _⟩ := h
  have e1 : y / 4 = 100 * q + 25 * c + f := by omega
  have e2 : y / 100 = 4 * q + c := by omega
  have e3 : y / 400 = q := by omega
  omega
theorem of_early {n q c f o r m y : Int} (hn : -719162 ≤ n) (hn' : n < 2932897) (h : Parts n q c f o r) (hm : m = (5 * r + 2) / 153) (hy : y = q * 400 + (c * 100 + f * 4 + o)) (h10 : m < 10) :
    IsDate n y ((m + 2) % 12 + 1) (r - (153 * m + 2) / 5 + 1) := by
  have hs := h.sum hy
  have hmd := march_day y
  have r1 := h.r1
  have r2 := h.r2
  have q1 := h.q1
  have c1 := h.c1
  have f1 := h.f1
  have o1 := h.o1
  have y2 : y ≤ 9999 := by
    have := h.eq; have := h.q2; have := h.c2; have := h.f2; have := h.o2
    omega
  have y1 : 1 ≤ y := by
    have := h.eq
    omega
  have hms : m = 0 ∨ m = 1 ∨ m = 2 ∨ m = 3 ∨ m = 4 ∨ m = 5 ∨ m = 6 ∨ m = 7 ∨ m = 8 ∨ m = 9 := by omega
  clear h hy q1 c1 f1 o1
  rcases hms with rfl | rfl | rfl | rfl | rfl | rfl | rfl | rfl | rfl | rfl
  all_goals
    refine ⟨y1, y2, by decide, by decide, by omega, ?_, ?_⟩
    · simp [longM]; omega
    · simp [dayM]; omega
theorem of_late {n q c f o r m y : Int} (hn : -719162 ≤ n) (hn' : n < 2932897) (h : Parts n q c f o r) (hm : m = (5 * r + 2) / 153) (hy : y = q * 400 + (c * 100 + f * 4 + o)) (h10 : 10 ≤ m) :
    IsDate n (y + 1) ((m + 2) % 12 + 1) (r - (153 * m + 2) / 5 + 1) := by
  have hs := h.sum hy
  have hnd := next_day y
  have r1 := h.r1
  have r2 := h.r2
  have y2 : y + 1 ≤ 9999 := by
    have := h.eq; have := h.q2; have := h.c2; have := h.f2; have := h.o2; have := h.c1; have := h.f1; have := h.o1
    omega
  have y1 : 1 ≤ y + 1 := by
    have := h.q1; have := h.c1; have := h.f1; have := h.o1
    omega
  have hl : r = 365 → leapB (y + 1) = true := by
    intro hr
    obtain ⟨l1, l2⟩ := h.last hr
    have := h.c1; have := h.c2; have := h.f1; have := h.f2
    unfold leapB
    rw [decide_eq_true_eq]
    omega
  have hms : m = 10 ∨ m = 11 := by omega
  clear h hy
  rcases hms with rfl | rfl
  · refine ⟨y1, y2, by decide, by decide, by omega, ?_, ?_⟩
    · simp [longM]; omega
    · simp [dayM]; omega
  · refine ⟨y1, y2, by decide, by decide, by omega, ?_, ?_⟩
    · simp only [longM]
      by_cases hr : r = 365
      · rw [hl hr]; simp; omega
      · simp; split <;> omega
    · simp [dayM]; omega
end Civ
end Go.Proofs.YtcpjkemjpgggcaaGreatDoor
-- CivilW
namespace Go.Proofs.YtcpjkemjpgggcaaGreatDoor
open Go.RowKit Civ
theorem tmod_pos (a b : Int) (h : 0 ≤ a) : a.tmod b = a % b := Int.tmod_eq_emod_of_nonneg h
theorem tdiv_pos (a b : Int) (h : 0 ≤ a) : a.tdiv b = a / b := Int.tdiv_eq_ediv_of_nonneg h
theorem vmod {a b r : Int} (h : 0 ≤ a) (hr : a % b = r) : Value.int .i64 (a.tmod b) = .int .i64 r := by rw [tmod_pos a b h, hr]
theorem vdiv {a b r : Int} (h : 0 ≤ a) (hr : a / b = r) : Value.int .i64 (a.tdiv b) = .int .i64 r := by rw [tdiv_pos a b h, hr]
theorem beq_yes {a b : Int} (h : a = b) : (a == b) = true := by rw [beq_iff_eq]; exact h
theorem bne_no {a b : Int} (h : a = b) : (a != b) = false := by subst h; simp
theorem beq_no {a b : Int} (h : a ≠ b) : (a == b) = false := by rw [beq_eq_false_iff_ne]; exact h
theorem bne_yes {a b : Int} (h : a ≠ b) : (a != b) = true := by rw [bne_iff_ne]; exact h
theorem dec_yes {p : Prop} [Decidable p] (h : p) : decide p = true := decide_eq_true h
theorem dec_no {p : Prop} [Decidable p] (h : ¬ p) : decide p = false := decide_eq_false h
theorem leapB_yes {y : Int} (h : y % 400 = 0 ∨ (y % 4 = 0 ∧ y % 100 ≠ 0)) : leapB y = true := by unfold leapB; exact decide_eq_true h
theorem leapB_no {y : Int} (h : ¬ (y % 400 = 0 ∨ (y % 4 = 0 ∧ y % 100 ≠ 0))) : leapB y = false := by unfold leapB; exact decide_eq_false h
set_option maxRecDepth 100000 in
theorem leap_any (y : Int) (h : 0 ≤ y) (w : World) : Calls Tryz.prog 206 #[.int .i64 y] w fun e w' => e = .returned (.bool (leapB y)) ∧ w = w' := by
  by_cases h400 : y % 400 = 0
  · have h4 : y % 4 = 0 := by omega
    have h100 : y % 100 = 0 := by omega
    have e4 : (y % 4 == 0) = true := beq_yes h4
    have i4 : (y % 4 != 0) = false := bne_no h4
    have d4 : decide (y % 4 = 0) = true := dec_yes h4
    have e100 : (y % 100 == 0) = true := beq_yes h100
    have i100 : (y % 100 != 0) = false := bne_no h100
    have d100 : decide (y % 100 = 0) = true := dec_yes h100
    have e400 : (y % 400 == 0) = true := beq_yes h400
    have i400 : (y % 400 != 0) = false := bne_no h400
    have d400 : decide (y % 400 = 0) = true := dec_yes h400
    have HV := Lib.hid (leapB_yes (y := y) (.inl h400))
    clear h4 h100 h400
    go_enter Tryz.func206, Tryz.ntmps206
    go_wp2_with fail
    go_ret
    rw [HV.out]
    exact ⟨rfl, rfl⟩
  by_cases h4 : y % 4 = 0
  · by_cases h100 : y % 100 = 0
    · skip
      have e4 : (y % 4 == 0) = true := beq_yes h4
      have i4 : (y % 4 != 0) = false := bne_no h4
      have d4 : decide (y % 4 = 0) = true := dec_yes h4
      have e100 : (y % 100 == 0) = true := beq_yes h100
      have i100 : (y % 100 != 0) = false := bne_no h100
      have d100 : decide (y % 100 = 0) = true := dec_yes h100
      have e400 : (y % 400 == 0) = false := beq_no h400
      have i400 : (y % 400 != 0) = true := bne_yes h400
      have d400 : decide (y % 400 = 0) = false := dec_no h400
      have HV := Lib.hid (leapB_no (y := y) (by omega))
      clear h4 h100 h400
      go_enter Tryz.func206, Tryz.ntmps206
      go_wp2_with fail
      go_ret
      rw [HV.out]
      exact ⟨rfl, rfl⟩
    · skip
      have e4 : (y % 4 == 0) = true := beq_yes h4
      have i4 : (y % 4 != 0) = false := bne_no h4
      have d4 : decide (y % 4 = 0) = true := dec_yes h4
      have e100 : (y % 100 == 0) = false := beq_no h100
      have i100 : (y % 100 != 0) = true := bne_yes h100
      have d100 : decide (y % 100 = 0) = false := dec_no h100
      have e400 : (y % 400 == 0) = false := beq_no h400
      have i400 : (y % 400 != 0) = true := bne_yes h400
      have d400 : decide (y % 400 = 0) = false := dec_no h400
      have HV := Lib.hid (leapB_yes (y := y) (.inr ⟨h4, h100⟩))
      clear h4 h100 h400
      go_enter Tryz.func206, Tryz.ntmps206
      go_wp2_with fail
      go_ret
      rw [HV.out]
      exact ⟨rfl, rfl⟩
  · skip
    have e4 : (y % 4 == 0) = false := beq_no h4
    have i4 : (y % 4 != 0) = true := bne_yes h4
    have d4 : decide (y % 4 = 0) = false := dec_no h4
    have e400 : (y % 400 == 0) = false := beq_no h400
    have i400 : (y % 400 != 0) = true := bne_yes h400
    have d400 : decide (y % 400 = 0) = false := dec_no h400
    have HV := Lib.hid (leapB_no (y := y) (by omega))
    clear h4 h400
    go_enter Tryz.func206, Tryz.ntmps206
    go_wp2_with fail
    go_ret
    rw [HV.out]
    exact ⟨rfl, rfl⟩
set_option maxRecDepth 100000 in
theorem lengths_any (w : World) : Calls Tryz.prog 207 #[] w fun e w' => e = .returned (.agg #[.int .i64 31, .int .i64 28, .int .i64 31, .int .i64 30, .int .i64 31, .int .i64 30, .int .i64 31, .int .i64 31, .int .i64 30, .int .i64 31, .int .i64 30, .int .i64 31]) ∧ Below w.heap.size w w' := by
  go_enter Tryz.func207, Tryz.ntmps207
  go_wp2_with fail
  exact bodyPost_ret (results_cell_row Tryz.results207 _ _ _ _ _ _ _ rfl (heap_alloc_new _ _) Tryz.underlying210 rfl (by kernel_rfl)) rfl ⟨rfl, (Below.refl _ _).alloc (Nat.le_refl _) _⟩
set_option maxRecDepth 100000 in
set_option maxHeartbeats 2000000 in
theorem long_any (y m : Int) (h : 0 ≤ y) (hm1 : 1 ≤ m) (hm2 : m ≤ 12) (w : World) : Calls Tryz.prog 178 #[.int .i64 y, .int .i64 m] w fun e w' => e = .returned (.int .i64 (longM y m)) ∧ Below w.heap.size w w' := by
  have HL := Lib.hid (fun W => leap_any y h W)
  have hms : m = 1 ∨ m = 2 ∨ m = 3 ∨ m = 4 ∨ m = 5 ∨ m = 6 ∨ m = 7 ∨ m = 8 ∨ m = 9 ∨ m = 10 ∨ m = 11 ∨ m = 12 := by omega
  clear hm1 hm2
  rcases hms with rfl | rfl | rfl | rfl | rfl | rfl | rfl | rfl | rfl | rfl | rfl | rfl
  · have HV : Hid (longM y 1 = 31) := by show longM y 1 = 31; simp [longM]
    clear HL
    have hix : ∀ W : World, (Instr.index 210 (.agg #[.int .i64 31, .int .i64 28, .int .i64 31, .int .i64 30, .int .i64 31, .int .i64 30, .int .i64 31, .int .i64 31, .int .i64 30, .int .i64 31, .int .i64 30, .int .i64 31]) (.int .i64 0)).run Tryz.prog W = .ok (.int .i64 31) W := fun W => by kernel_rfl
    go_enter Tryz.func178, Tryz.ntmps178
    go_wp2_with (go_at_call 207; refine (lengths_any _).mono ?_; rintro e' w' ⟨rfl, hb⟩; have HB := Lib.hid hb; clear hb)
    go_ret
    rw [HV.out]
    exact ⟨rfl, HB.out⟩
  · cases hl : leapB y
    · have HV : Hid (longM y 2 = 28) := by show longM y 2 = 28; simp [longM, hl]
      rw [hl] at HL
      clear hl
      have hix : ∀ W : World, (Instr.index 210 (.agg #[.int .i64 31, .int .i64 28, .int .i64 31, .int .i64 30, .int .i64 31, .int .i64 30, .int .i64 31, .int .i64 31, .int .i64 30, .int .i64 31, .int .i64 30, .int .i64 31]) (.int .i64 1)).run Tryz.prog W = .ok (.int .i64 28) W := fun W => by kernel_rfl
      go_enter Tryz.func178, Tryz.ntmps178
      go_wp2_with (first | (go_at_call 206; refine (HL.out _).mono ?_; rintro e' w' ⟨rfl, rfl⟩) | (go_at_call 207; refine (lengths_any _).mono ?_; rintro e' w' ⟨rfl, hb⟩; have HB := Lib.hid hb; clear hb))
      go_ret
      rw [HV.out]
      exact ⟨rfl, HB.out⟩
    · have HV : Hid (longM y 2 = 29) := by show longM y 2 = 29; simp [longM, hl]
      rw [hl] at HL
      clear hl
      have hix : ∀ W : World, (Instr.index 210 (.agg #[.int .i64 31, .int .i64 28, .int .i64 31, .int .i64 30, .int .i64 31, .int .i64 30, .int .i64 31, .int .i64 31, .int .i64 30, .int .i64 31, .int .i64 30, .int .i64 31]) (.int .i64 1)).run Tryz.prog W = .ok (.int .i64 28) W := fun W => by kernel_rfl
      go_enter Tryz.func178, Tryz.ntmps178
      go_wp2_with (first | (go_at_call 206; refine (HL.out _).mono ?_; rintro e' w' ⟨rfl, rfl⟩) | (go_at_call 207; refine (lengths_any _).mono ?_; rintro e' w' ⟨rfl, hb⟩; have HB := Lib.hid hb; clear hb))
      go_ret
      rw [HV.out]
      exact ⟨rfl, Below.refl _ _⟩
  · have HV : Hid (longM y 3 = 31) := by show longM y 3 = 31; simp [longM]
    clear HL
    have hix : ∀ W : World, (Instr.index 210 (.agg #[.int .i64 31, .int .i64 28, .int .i64 31, .int .i64 30, .int .i64 31, .int .i64 30, .int .i64 31, .int .i64 31, .int .i64 30, .int .i64 31, .int .i64 30, .int .i64 31]) (.int .i64 2)).run Tryz.prog W = .ok (.int .i64 31) W := fun W => by kernel_rfl
    go_enter Tryz.func178, Tryz.ntmps178
    go_wp2_with (go_at_call 207; refine (lengths_any _).mono ?_; rintro e' w' ⟨rfl, hb⟩; have HB := Lib.hid hb; clear hb)
    go_ret
    rw [HV.out]
    exact ⟨rfl, HB.out⟩
  · have HV : Hid (longM y 4 = 30) := by show longM y 4 = 30; simp [longM]
    clear HL
    have hix : ∀ W : World, (Instr.index 210 (.agg #[.int .i64 31, .int .i64 28, .int .i64 31, .int .i64 30, .int .i64 31, .int .i64 30, .int .i64 31, .int .i64 31, .int .i64 30, .int .i64 31, .int .i64 30, .int .i64 31]) (.int .i64 3)).run Tryz.prog W = .ok (.int .i64 30) W := fun W => by kernel_rfl
    go_enter Tryz.func178, Tryz.ntmps178
    go_wp2_with (go_at_call 207; refine (lengths_any _).mono ?_; rintro e' w' ⟨rfl, hb⟩; have HB := Lib.hid hb; clear hb)
    go_ret
    rw [HV.out]
    exact ⟨rfl, HB.out⟩
  · have HV : Hid (longM y 5 = 31) := by show longM y 5 = 31; simp [longM]
    clear HL
    have hix : ∀ W : World, (Instr.index 210 (.agg #[.int .i64 31, .int .i64 28, .int .i64 31, .int .i64 30, .int .i64 31, .int .i64 30, .int .i64 31, .int .i64 31, .int .i64 30, .int .i64 31, .int .i64 30, .int .i64 31]) (.int .i64 4)).run Tryz.prog W = .ok (.int .i64 31) W := fun W => by kernel_rfl
    go_enter Tryz.func178, Tryz.ntmps178
    go_wp2_with (go_at_call 207; refine (lengths_any _).mono ?_; rintro e' w' ⟨rfl, hb⟩; have HB := Lib.hid hb; clear hb)
    go_ret
    rw [HV.out]
    exact ⟨rfl, HB.out⟩
  · have HV : Hid (longM y 6 = 30) := by show longM y 6 = 30; simp [longM]
    clear HL
    have hix : ∀ W : World, (Instr.index 210 (.agg #[.int .i64 31, .int .i64 28, .int .i64 31, .int .i64 30, .int .i64 31, .int .i64 30, .int .i64 31, .int .i64 31, .int .i64 30, .int .i64 31, .int .i64 30, .int .i64 31]) (.int .i64 5)).run Tryz.prog W = .ok (.int .i64 30) W := fun W => by kernel_rfl
    go_enter Tryz.func178, Tryz.ntmps178
    go_wp2_with (go_at_call 207; refine (lengths_any _).mono ?_; rintro e' w' ⟨rfl, hb⟩; have HB := Lib.hid hb; clear hb)
    go_ret
    rw [HV.out]
    exact ⟨rfl, HB.out⟩
  · have HV : Hid (longM y 7 = 31) := by show longM y 7 = 31; simp [longM]
    clear HL
    have hix : ∀ W : World, (Instr.index 210 (.agg #[.int .i64 31, .int .i64 28, .int .i64 31, .int .i64 30, .int .i64 31, .int .i64 30, .int .i64 31, .int .i64 31, .int .i64 30, .int .i64 31, .int .i64 30, .int .i64 31]) (.int .i64 6)).run Tryz.prog W = .ok (.int .i64 31) W := fun W => by kernel_rfl
    go_enter Tryz.func178, Tryz.ntmps178
    go_wp2_with (go_at_call 207; refine (lengths_any _).mono ?_; rintro e' w' ⟨rfl, hb⟩; have HB := Lib.hid hb; clear hb)
    go_ret
    rw [HV.out]
    exact ⟨rfl, HB.out⟩
  · have HV : Hid (longM y 8 = 31) := by show longM y 8 = 31; simp [longM]
    clear HL
    have hix : ∀ W : World, (Instr.index 210 (.agg #[.int .i64 31, .int .i64 28, .int .i64 31, .int .i64 30, .int .i64 31, .int .i64 30, .int .i64 31, .int .i64 31, .int .i64 30, .int .i64 31, .int .i64 30, .int .i64 31]) (.int .i64 7)).run Tryz.prog W = .ok (.int .i64 31) W := fun W => by kernel_rfl
    go_enter Tryz.func178, Tryz.ntmps178
    go_wp2_with (go_at_call 207; refine (lengths_any _).mono ?_; rintro e' w' ⟨rfl, hb⟩; have HB := Lib.hid hb; clear hb)
    go_ret
    rw [HV.out]
    exact ⟨rfl, HB.out⟩
  · have HV : Hid (longM y 9 = 30) := by show longM y 9 = 30; simp [longM]
    clear HL
    have hix : ∀ W : World, (Instr.index 210 (.agg #[.int .i64 31, .int .i64 28, .int .i64 31, .int .i64 30, .int .i64 31, .int .i64 30, .int .i64 31, .int .i64 31, .int .i64 30, .int .i64 31, .int .i64 30, .int .i64 31]) (.int .i64 8)).run Tryz.prog W = .ok (.int .i64 30) W := fun W => by kernel_rfl
    go_enter Tryz.func178, Tryz.ntmps178
    go_wp2_with (go_at_call 207; refine (lengths_any _).mono ?_; rintro e' w' ⟨rfl, hb⟩; have HB := Lib.hid hb; clear hb)
    go_ret
    rw [HV.out]
    exact ⟨rfl, HB.out⟩
  · have HV : Hid (longM y 10 = 31) := by show longM y 10 = 31; simp [longM]
    clear HL
    have hix : ∀ W : World, (Instr.index 210 (.agg #[.int .i64 31, .int .i64 28, .int .i64 31, .int .i64 30, .int .i64 31, .int .i64 30, .int .i64 31, .int .i64 31, .int .i64 30, .int .i64 31, .int .i64 30, .int .i64 31]) (.int .i64 9)).run Tryz.prog W = .ok (.int .i64 31) W := fun W => by kernel_rfl
    go_enter Tryz.func178, Tryz.ntmps178
    go_wp2_with (go_at_call 207; refine (lengths_any _).mono ?_; rintro e' w' ⟨rfl, hb⟩; have HB := Lib.hid hb; clear hb)
    go_ret
    rw [HV.out]
    exact ⟨rfl, HB.out⟩
  · have HV : Hid (longM y 11 = 30) := by show longM y 11 = 30; simp [longM]
    clear HL
    have hix : ∀ W : World, (Instr.index 210 (.agg #[.int .i64 31, .int .i64 28, .int .i64 31, .int .i64 30, .int .i64 31, .int .i64 30, .int .i64 31, .int .i64 31, .int .i64 30, .int .i64 31, .int .i64 30, .int .i64 31]) (.int .i64 10)).run Tryz.prog W = .ok (.int .i64 30) W := fun W => by kernel_rfl
    go_enter Tryz.func178, Tryz.ntmps178
    go_wp2_with (go_at_call 207; refine (lengths_any _).mono ?_; rintro e' w' ⟨rfl, hb⟩; have HB := Lib.hid hb; clear hb)
    go_ret
    rw [HV.out]
    exact ⟨rfl, HB.out⟩
  · have HV : Hid (longM y 12 = 31) := by show longM y 12 = 31; simp [longM]
    clear HL
    have hix : ∀ W : World, (Instr.index 210 (.agg #[.int .i64 31, .int .i64 28, .int .i64 31, .int .i64 30, .int .i64 31, .int .i64 30, .int .i64 31, .int .i64 31, .int .i64 30, .int .i64 31, .int .i64 30, .int .i64 31]) (.int .i64 11)).run Tryz.prog W = .ok (.int .i64 31) W := fun W => by kernel_rfl
    go_enter Tryz.func178, Tryz.ntmps178
    go_wp2_with (go_at_call 207; refine (lengths_any _).mono ?_; rintro e' w' ⟨rfl, hb⟩; have HB := Lib.hid hb; clear hb)
    go_ret
    rw [HV.out]
    exact ⟨rfl, HB.out⟩
theorem days_late {n y m d : Int} (h : IsDate n y m d) (hm : 3 ≤ m) : y * 365 + y / 4 - y / 100 + y / 400 + (153 * (m - 3) + 2) / 5 + d - 1 - 719468 = n := by
  have he := h.eq
  have h2 := march_day y
  have hms : m = 3 ∨ m = 4 ∨ m = 5 ∨ m = 6 ∨ m = 7 ∨ m = 8 ∨ m = 9 ∨ m = 10 ∨ m = 11 ∨ m = 12 := by have := h.m2; omega
  clear h hm
  rcases hms with rfl | rfl | rfl | rfl | rfl | rfl | rfl | rfl | rfl | rfl
  all_goals
    simp [dayM] at he
    omega
theorem days_early {n y m d : Int} (h : IsDate n y m d) (hm : m < 3) : (y - 1) * 365 + (y - 1) / 4 - (y - 1) / 100 + (y - 1) / 400 + (153 * (m + 9) + 2) / 5 + d - 1 - 719468 = n := by
  have he := h.eq
  have h2 := next_day (y - 1)
  rw [Int.sub_add_cancel] at h2
  have hms : m = 1 ∨ m = 2 := by have := h.m1; omega
  clear h hm
  rcases hms with rfl | rfl
  all_goals
    simp [dayM] at he
    omega
set_option maxRecDepth 100000 in
theorem right_any {n y m d : Int} (hd : IsDate n y m d) (w : World) : Calls Tryz.prog 146 #[.int .i64 y, .int .i64 m, .int .i64 d] w fun e w' => e = .returned (.bool true) ∧ Below w.heap.size w w' := by
  obtain ⟨L, hL⟩ : ∃ L, L = longM y m := ⟨_, rfl⟩
  have HL : Hid (∀ W : World, Calls Tryz.prog 178 #[.int .i64 y, .int .i64 m] W fun e w' => e = .returned (.int .i64 L) ∧ Below W.heap.size W w') := fun W => by rw [hL]; exact long_any y m (by have := hd.y1; omega) hd.m1 hd.m2 W
  obtain ⟨y1, y2, m1, m2, d1, d2, -⟩ := hd
  rw [← hL] at d2
  clear hL
  go_enter Tryz.func146, Tryz.ntmps146
  go_wp2_with (go_at_call 178; refine (HL.out _).mono ?_; rintro e' w' ⟨rfl, hb⟩; have HB := Lib.hid hb; clear hb)
  go_ret
  exact ⟨by simp, HB.out⟩
set_option maxRecDepth 100000 in
theorem date_days {n y m d : Int} (hd : IsDate n y m d) (w : World) : Calls Tryz.prog 102 #[.int .i64 y, .int .i64 m, .int .i64 d] w fun e w' => e = .returned (.tuple #[.int .i64 n, .bool true]) ∧ Below w.heap.size w w' := by
  have HR := Lib.hid (fun W => right_any hd W)
  have HE := Lib.hid (fun h => days_late hd h)
  have HF := Lib.hid (fun h => days_early hd h)
  have hd31 : d ≤ 31 := by have := (longM_range y m hd.m1 hd.m2).2; have := hd.d2; omega
  obtain ⟨y1, y2, m1, m2, d1, -, -⟩ := hd
  by_cases h3 : 3 ≤ m
  · have hv := HE.out h3
    have hm9 : (m + 9) % 12 = m - 3 := by omega
    go_enter Tryz.func102, Tryz.ntmps102
    go_wp2_with (go_at_call 146; refine (HR.out _).mono ?_; rintro e' w' ⟨rfl, hb⟩; have HB := Lib.hid hb; clear hb)
    go_ret2
    exact ⟨rfl, HB.out⟩
  · have h3' : m < 3 := by omega
    have hv := HF.out h3'
    have hm9 : (m + 9) % 12 = m + 9 := by omega
    clear h3
    go_enter Tryz.func102, Tryz.ntmps102
    go_wp2_with (go_at_call 146; refine (HR.out _).mono ?_; rintro e' w' ⟨rfl, hb⟩; have HB := Lib.hid hb; clear hb)
    go_ret2
    exact ⟨rfl, HB.out⟩
theorem nat_of (x : Int) (h : 0 ≤ x) : ∃ k : Nat, x = k := ⟨x.toNat, by omega⟩
theorem IsDate_range {n y m d : Int} (h : IsDate n y m d) : -719162 ≤ n ∧ n < 2932897 := by
  obtain ⟨h1, h2⟩ := h.year
  have h3 : dayY 1 ≤ dayY y := dayY_le (by decide) h.y1
  have h4 : dayY (y + 1) ≤ dayY 10000 := dayY_le (by have := h.y1; omega) (by have := h.y2; omega)
  have e1 : dayY 1 = -719162 := by decide
  have e2 : dayY 10000 = 2932897 := by decide
  omega
set_option maxRecDepth 100000 in
theorem of_none {n : Int} (hl : -9223372036854775808 ≤ n) (hh : n ≤ 9223372036854775807) (h : n < -719162 ∨ 2932897 ≤ n) (w : World) : Calls Tryz.prog 145 #[.int .i64 n] w fun e w' => e = .returned (.tuple #[.int .i64 0, .int .i64 0, .int .i64 0, .bool false]) ∧ w = w' := by
  by_cases h1 : n < -719162
  · go_enter Tryz.func145, Tryz.ntmps145
    go_wp2_with fail
    exact bodyPost_ret (v := .tuple #[.int .i64 0, .int .i64 0, .int .i64 0, .bool false]) (by simp [results, Tryz.results145, go_sem]) rfl ⟨rfl, rfl⟩
  · have h2 : 2932897 ≤ n := by omega
    have h3 : -719162 ≤ n := by omega
    clear h
    go_enter Tryz.func145, Tryz.ntmps145
    go_wp2_with fail
    exact bodyPost_ret (v := .tuple #[.int .i64 0, .int .i64 0, .int .i64 0, .bool false]) (by simp [results, Tryz.results145, go_sem]) rfl ⟨rfl, rfl⟩
set_option maxRecDepth 100000 in
set_option maxHeartbeats 2000000 in
theorem of_any {n y m d : Int} (hd : IsDate n y m d) (w : World) : Calls Tryz.prog 145 #[.int .i64 n] w fun e w' => e = .returned (.tuple #[.int .i64 y, .int .i64 m, .int .i64 d, .bool true]) ∧ w = w' := by
  obtain ⟨hn1, hn2⟩ := IsDate_range hd
  obtain ⟨q, hq⟩ : ∃ q, q = (n + 719468) / 146097 := ⟨_, rfl⟩
  obtain ⟨r0, hr0⟩ : ∃ r, r = (n + 719468) % 146097 := ⟨_, rfl⟩
  obtain ⟨a, ha⟩ : ∃ r, r = r0 / 36524 := ⟨_, rfl⟩
  obtain ⟨c, hc⟩ : ∃ r, r = min a 3 := ⟨_, rfl⟩
  obtain ⟨r1, hr1⟩ : ∃ r, r = r0 - c * 36524 := ⟨_, rfl⟩
  obtain ⟨f, hf⟩ : ∃ r, r = r1 / 1461 := ⟨_, rfl⟩
  obtain ⟨r2, hr2⟩ : ∃ r, r = r1 - f * 1461 := ⟨_, rfl⟩
  obtain ⟨b, hb⟩ : ∃ r, r = r2 / 365 := ⟨_, rfl⟩
  obtain ⟨o, ho⟩ : ∃ r, r = min b 3 := ⟨_, rfl⟩
  obtain ⟨r3, hr3⟩ : ∃ r, r = r2 - o * 365 := ⟨_, rfl⟩
  have HP : Parts n q c f o r3 := parts_of hn1 hn2 hq (by rw [hc, ha, hr0]) (by rw [hf, hr1, hr0]) (by rw [ho, hb, hr2, hr1, hr0]) (by rw [hr3, hr2, hr1, hr0])
  obtain ⟨y0, hy0⟩ : ∃ r, r = q * 400 + (c * 100 + f * 4 + o) := ⟨_, rfl⟩
  obtain ⟨k, hk⟩ : ∃ r, r = (5 * r3 + 2) / 153 := ⟨_, rfl⟩
  obtain ⟨t, ht⟩ : ∃ r, r = (153 * k + 2) / 5 := ⟨_, rfl⟩
  obtain ⟨u, hu⟩ : ∃ r, r = (k + 2) % 12 := ⟨_, rfl⟩
  have b1 : 0 ≤ r0 ∧ r0 ≤ 146096 := by omega
  have b2 : 0 ≤ a ∧ a ≤ 4 := by omega
  have b3 : 0 ≤ r1 ∧ r1 ≤ 36524 := by omega
  have b4 : 0 ≤ r2 ∧ r2 ≤ 1460 := by omega
  have b5 : 0 ≤ b ∧ b ≤ 4 := by omega
  have b6 : 0 ≤ k ∧ k ≤ 11 := by have := HP.r1; have := HP.r2; omega
  have b7 : 0 ≤ t ∧ t ≤ 337 := by omega
  have b8 : 0 ≤ u ∧ u ≤ 11 := by omega
  have hfin : (k < 10 ∧ y = y0 ∨ 10 ≤ k ∧ y = y0 + 1) ∧ m = u + 1 ∧ d = r3 - t + 1 := by
    by_cases h10 : k < 10
    · obtain ⟨e1, e2, e3⟩ := hd.unique (of_early hn1 hn2 HP hk hy0 h10)
      rw [← hu] at e2
      rw [← ht] at e3
      exact ⟨.inl ⟨h10, e1⟩, e2, e3⟩
    · obtain ⟨e1, e2, e3⟩ := hd.unique (of_late hn1 hn2 HP hk hy0 (by omega))
      rw [← hu] at e2
      rw [← ht] at e3
      exact ⟨.inr ⟨by omega, e1⟩, e2, e3⟩
  obtain ⟨p1, p2, p3, p4, p5, p6, p7, p8, p9, p10, -, -⟩ := HP
  have b9 : 0 ≤ y0 ∧ y0 ≤ 10399 := by omega
  obtain ⟨hy, hm, hdd⟩ := hfin
  have z1 := hd.y1
  have z2 := hd.m1
  have z3 := hd.d1
  clear hd
  obtain ⟨q, rfl⟩ := nat_of q (by omega)
  obtain ⟨r0, rfl⟩ := nat_of r0 (by omega)
  obtain ⟨a, rfl⟩ := nat_of a (by omega)
  obtain ⟨c, rfl⟩ := nat_of c (by omega)
  obtain ⟨r1, rfl⟩ := nat_of r1 (by omega)
  obtain ⟨f, rfl⟩ := nat_of f (by omega)
  obtain ⟨r2, rfl⟩ := nat_of r2 (by omega)
  obtain ⟨b, rfl⟩ := nat_of b (by omega)
  obtain ⟨o, rfl⟩ := nat_of o (by omega)
  obtain ⟨r3, rfl⟩ := nat_of r3 (by omega)
  obtain ⟨y0, rfl⟩ := nat_of y0 (by omega)
  obtain ⟨k, rfl⟩ := nat_of k (by omega)
  obtain ⟨t, rfl⟩ := nat_of t (by omega)
  obtain ⟨u, rfl⟩ := nat_of u (by omega)
  obtain ⟨y, rfl⟩ := nat_of y (by omega)
  obtain ⟨m, rfl⟩ := nat_of m (by omega)
  obtain ⟨d, rfl⟩ := nat_of d (by omega)
  have v1 : Value.int .i64 ((n + 719468) / 146097) = .int .i64 (q : Int) := by rw [hq]
  have v2 : Value.int .i64 ((n + 719468) % 146097) = .int .i64 (r0 : Int) := by rw [hr0]
  have v3 : Value.int .i64 ((r0 : Int) / 36524) = .int .i64 (a : Int) := by rw [ha]
  have v4 : Value.int .i64 (if (3 : Int) < (a : Int) then 3 else (a : Int)) = .int .i64 (c : Int) := by rw [show (if (3 : Int) < (a : Int) then 3 else (a : Int)) = (c : Int) from by split <;> omega]
  have v5 : Value.int .i64 ((r0 : Int) - c * 36524) = .int .i64 (r1 : Int) := by rw [hr1]
  have v6 : Value.int .i64 ((r1 : Int) / 1461) = .int .i64 (f : Int) := by rw [hf]
  have v7 : Value.int .i64 ((r1 : Int) - f * 1461) = .int .i64 (r2 : Int) := by rw [hr2]
  have v8 : Value.int .i64 ((r2 : Int) / 365) = .int .i64 (b : Int) := by rw [hb]
  have v9 : Value.int .i64 (if (3 : Int) < (b : Int) then 3 else (b : Int)) = .int .i64 (o : Int) := by rw [show (if (3 : Int) < (b : Int) then 3 else (b : Int)) = (o : Int) from by split <;> omega]
  have v10 : Value.int .i64 ((r2 : Int) - o * 365) = .int .i64 (r3 : Int) := by rw [hr3]
  have v11 : Value.int .i64 ((q : Int) * 400 + (c * 100 + f * 4 + o)) = .int .i64 (y0 : Int) := by rw [hy0]
  have v12 : Value.int .i64 ((5 * (r3 : Int) + 2) / 153) = .int .i64 (k : Int) := by rw [hk]
  have v13 : Value.int .i64 ((153 * (k : Int) + 2) / 5) = .int .i64 (t : Int) := by rw [ht]
  have v14 : Value.int .i64 (((k : Int) + 2) % 12) = .int .i64 (u : Int) := by rw [hu]
  have v15 : Value.int .i64 ((u : Int) + 1) = .int .i64 (m : Int) := by rw [hm]
  have v16 : Value.int .i64 ((r3 : Int) - t + 1) = .int .i64 (d : Int) := by rw [hdd]
  have HF := Lib.hid (And.intro hy0 (And.intro hm hdd))
  clear hq hr0 ha hc hr1 hf hr2 hb ho hr3 hk ht hu hm hdd hy0
  obtain ⟨b1, b1'⟩ := b1
  obtain ⟨b2, b2'⟩ := b2
  obtain ⟨b3, b3'⟩ := b3
  obtain ⟨b4, b4'⟩ := b4
  obtain ⟨b5, b5'⟩ := b5
  obtain ⟨b6, b6'⟩ := b6
  obtain ⟨b7, b7'⟩ := b7
  obtain ⟨b8, b8'⟩ := b8
  obtain ⟨b9, b9'⟩ := b9
  rcases hy with ⟨h10, hy⟩ | ⟨h10, hy⟩
  · have v17 : Value.int .i64 (y0 : Int) = .int .i64 (y : Int) := by rw [hy]
    have HY := Lib.hid hy
    clear hy
    go_enter Tryz.func145, Tryz.ntmps145
    go_wp2_with fail
    exact bodyPost_ret (v := .tuple #[.int .i64 y, .int .i64 m, .int .i64 d, .bool true]) (by simp [results, Tryz.results145, go_sem]; have := HF.out; have := HY.out; omega) rfl ⟨rfl, rfl⟩
  · have v17 : Value.int .i64 ((y0 : Int) + 1) = .int .i64 (y : Int) := by rw [hy]
    have HY := Lib.hid hy
    clear hy
    go_enter Tryz.func145, Tryz.ntmps145
    go_wp2_with fail
    exact bodyPost_ret (v := .tuple #[.int .i64 y, .int .i64 m, .int .i64 d, .bool true]) (by simp [results, Tryz.results145, go_sem]; have := HF.out; have := HY.out; omega) rfl ⟨rfl, rfl⟩
end Go.Proofs.YtcpjkemjpgggcaaGreatDoor
-- CivilD
namespace Go.Proofs.YtcpjkemjpgggcaaGreatDoor
open Go.RowKit Civ
theorem tdm (a b : Int) (hb : 0 < b) : b * a.tdiv b + a.tmod b = a ∧ -b < a.tmod b ∧ a.tmod b < b ∧ (0 ≤ a → 0 ≤ a.tmod b) ∧ (a ≤ 0 → a.tmod b ≤ 0) := by
  refine ⟨Int.mul_tdiv_add_tmod a b, ?_, Int.tmod_lt_of_pos a hb, fun h => Int.tmod_nonneg b h, fun h => ?_⟩
  · have h1 := Int.tmod_lt_of_pos (-a) hb
    rw [Int.neg_tmod] at h1
    omega
  · have h1 := Int.tmod_nonneg b (a := -a) (by omega)
    rw [Int.neg_tmod] at h1
    omega
theorem results_row_tmp {P : Program} {fn : Func} {p u : Tmp} {ty : TypeId} (h : fn.results = #[.cell p ty, .tmp u]) (tmps : Array Value) (w : World) (g : Nat) (cs : Array Value)
    (hp : tmps.getD p undef = .pointer (some ⟨g, 0, none⟩)) (hl : (loadVar ty ⟨g, 0, none⟩).run P w = .ok (.agg cs) w) :
    (results fn tmps).run P w = .ok (.tuple #[.agg cs, tmps.getD u undef]) w := by
  rw [results_cell_tmp h, hp]
  show ((loadVar ty ⟨g, 0, none⟩).run P w).andThen _ = _
  rw [hl]
  rfl
/-- The weekday of a day. -/
def weekD (n : Int) : Int := (n + 4) % 7
set_option maxRecDepth 100000 in
theorem weekday_any (n : Int) (h1 : -719162 ≤ n) (h2 : n < 2932897) (w : World) : Calls Tryz.prog 105 #[.int .i64 n] w fun e w' => e = .returned (.int .i64 (weekD n)) ∧ w = w' := by
  have HV : Hid (∀ k : Nat, n.tmod 7 = (k : Int) - 6 → ((k : Int) - 6 + 11) % 7 = weekD n) := by
    show ∀ k : Nat, _ → _
    intro k hk
    unfold weekD
    have := tdm n 7 (by decide)
    omega
  obtain ⟨k, hk⟩ : ∃ k : Nat, n.tmod 7 = (k : Int) - 6 := ⟨(n.tmod 7 + 6).toNat, by have := tdm n 7 (by decide); omega⟩
  have hk2 : k ≤ 12 := by have := tdm n 7 (by decide); omega
  have v1 : Value.int .i64 (n.tmod 7) = .int .i64 ((k : Int) - 6) := by rw [hk]
  have HE := Lib.hid (HV.out k hk)
  clear HV hk
  go_enter Tryz.func105, Tryz.ntmps105
  go_wp2_with fail
  go_ret
  exact ⟨congrArg (fun v => Ending.returned (Value.int .i64 v)) HE.out, rfl⟩
/-- The date of a time, as the program's and the reference's type hold it. -/
def dateV (y m d r : Int) : Value := .agg #[.int .i64 y, .int .i64 m, .int .i64 d, .int .i64 (r / 3600), .int .i64 (r / 60 % 60), .int .i64 (r % 60)]
set_option maxRecDepth 100000 in
set_option maxHeartbeats 2000000 in
theorem date_late {s n y m d r : Int} (hd : IsDate n y m d) (hs : s = n * 86400 + r) (hr : 0 ≤ r) (hr2 : r < 86400) (h0 : 0 ≤ s) (w : World) : Calls Tryz.prog 101 #[.int .i64 s] w fun e w' => e = .returned (.tuple #[dateV y m d r, .bool true]) ∧ Below w.heap.size w w' := by
  obtain ⟨hn1, hn2⟩ := IsDate_range hd
  have HO : Hid (∀ (x : Int) (W : World), x = n → Calls Tryz.prog 145 #[.int .i64 x] W fun e w' => e = .returned (.tuple #[.int .i64 y, .int .i64 m, .int .i64 d, .bool true]) ∧ W = w') := fun x W e => by rw [e]; exact of_any hd W
  clear hd
  obtain ⟨N, rfl⟩ : ∃ k : Nat, n = k := ⟨n.toNat, by omega⟩
  obtain ⟨R, rfl⟩ : ∃ k : Nat, r = k := ⟨r.toNat, by omega⟩
  have v1 : Value.int .i64 (s / 86400) = .int .i64 (N : Int) := by rw [show s / 86400 = (N : Int) by omega]
  have v2 : Value.int .i64 (s % 86400) = .int .i64 (R : Int) := by rw [show s % 86400 = (R : Int) by omega]
  have s1 : s ≤ 253402300799 := by omega
  have r3 : (R : Int) ≤ 86399 := by omega
  have n3 : (N : Int) ≤ 2932896 := by omega
  clear hs hr2 hn1 hn2
  go_enter Tryz.func101, Tryz.ntmps101
  go_wp2_with (go_at_call 145; refine (HO.out _ _ ?_).mono ?_; (omega); rintro e' w' ⟨rfl, rfl⟩)
  exact bodyPost_ret (results_row_tmp Tryz.results101 _ _ _ _ rfl (run_loadVar_row _ _ _ _ _ _ _ (heap_alloc_new _ _) Tryz.underlying128 rfl (by kernel_rfl))) rfl ⟨rfl, (Below.refl _ _).alloc (Nat.le_refl _) _⟩
set_option maxRecDepth 100000 in
set_option maxHeartbeats 2000000 in
theorem date_early {s n y m d r : Int} (hd : IsDate n y m d) (hs : s = n * 86400 + r) (hr : 1 ≤ r) (hr2 : r < 86400) (h0 : s < 0) (w : World) : Calls Tryz.prog 101 #[.int .i64 s] w fun e w' => e = .returned (.tuple #[dateV y m d r, .bool true]) ∧ Below w.heap.size w w' := by
  obtain ⟨hn1, hn2⟩ := IsDate_range hd
  have HO : Hid (∀ (x : Int) (W : World), x = n → Calls Tryz.prog 145 #[.int .i64 x] W fun e w' => e = .returned (.tuple #[.int .i64 y, .int .i64 m, .int .i64 d, .bool true]) ∧ W = w') := fun x W e => by rw [e]; exact of_any hd W
  clear hd
  obtain ⟨N, rfl⟩ : ∃ k : Nat, n = -(k : Int) := ⟨(-n).toNat, by omega⟩
  obtain ⟨R, rfl⟩ : ∃ k : Nat, r = k := ⟨r.toNat, by omega⟩
  have ht := tdm s 86400 (by decide)
  have v1 : Value.int .i64 (s.tdiv 86400) = .int .i64 (-(N : Int) + 1) := by rw [show s.tdiv 86400 = -(N : Int) + 1 by omega]
  have v2 : Value.int .i64 (s.tmod 86400) = .int .i64 ((R : Int) - 86400) := by rw [show s.tmod 86400 = (R : Int) - 86400 by omega]
  have s1 : -62135596800 ≤ s := by omega
  have r3 : (R : Int) ≤ 86399 := by omega
  have n3 : (N : Int) ≤ 719162 := by omega
  have n4 : 1 ≤ (N : Int) := by omega
  clear hs hr2 hn1 hn2 ht
  go_enter Tryz.func101, Tryz.ntmps101
  go_wp2_with (go_at_call 145; refine (HO.out _ _ ?_).mono ?_; (omega); rintro e' w' ⟨rfl, rfl⟩)
  exact bodyPost_ret (results_row_tmp Tryz.results101 _ _ _ _ rfl (run_loadVar_row _ _ _ _ _ _ _ (heap_alloc_new _ _) Tryz.underlying128 rfl (by kernel_rfl))) rfl ⟨rfl, (Below.refl _ _).alloc (Nat.le_refl _) _⟩
set_option maxRecDepth 100000 in
set_option maxHeartbeats 2000000 in
theorem date_exact {s n y m d r : Int} (hd : IsDate n y m d) (hs : s = n * 86400 + r) (hr : r = 0) (hr2 : r < 86400) (h0 : s < 0) (w : World) : Calls Tryz.prog 101 #[.int .i64 s] w fun e w' => e = .returned (.tuple #[dateV y m d r, .bool true]) ∧ Below w.heap.size w w' := by
  obtain ⟨hn1, hn2⟩ := IsDate_range hd
  have HO : Hid (∀ (x : Int) (W : World), x = n → Calls Tryz.prog 145 #[.int .i64 x] W fun e w' => e = .returned (.tuple #[.int .i64 y, .int .i64 m, .int .i64 d, .bool true]) ∧ W = w') := fun x W e => by rw [e]; exact of_any hd W
  clear hd
  obtain ⟨N, rfl⟩ : ∃ k : Nat, n = -(k : Int) := ⟨(-n).toNat, by omega⟩
  subst hr
  have ht := tdm s 86400 (by decide)
  have v1 : Value.int .i64 (s.tdiv 86400) = .int .i64 (-(N : Int)) := by rw [show s.tdiv 86400 = -(N : Int) by omega]
  have v2 : Value.int .i64 (s.tmod 86400) = .int .i64 (0) := by rw [show s.tmod 86400 = 0 by omega]
  have s1 : -62135596800 ≤ s := by omega
  have r3 : s ≤ -1 := by omega
  have n3 : (N : Int) ≤ 719162 := by omega
  have n4 : 1 ≤ (N : Int) := by omega
  clear hs hr2 hn1 hn2 ht
  go_enter Tryz.func101, Tryz.ntmps101
  go_wp2_with (go_at_call 145; refine (HO.out _ _ ?_).mono ?_; (omega); rintro e' w' ⟨rfl, rfl⟩)
  exact bodyPost_ret (results_row_tmp Tryz.results101 _ _ _ _ rfl (run_loadVar_row _ _ _ _ _ _ _ (heap_alloc_new _ _) Tryz.underlying128 rfl (by kernel_rfl))) rfl ⟨rfl, (Below.refl _ _).alloc (Nat.le_refl _) _⟩
set_option maxRecDepth 100000 in
set_option maxHeartbeats 2000000 in
theorem date_above {s : Int} (h : 253402300800 ≤ s) (hh : s ≤ 9223372036854775807) (w : World) : Calls Tryz.prog 101 #[.int .i64 s] w fun e w' => e = .returned (.tuple #[dateV 0 0 0 0, .bool false]) ∧ Below w.heap.size w w' := by
  have HO : Hid (∀ (x : Int) (W : World), -9223372036854775808 ≤ x → x ≤ 9223372036854775807 → (x < -719162 ∨ 2932897 ≤ x) → Calls Tryz.prog 145 #[.int .i64 x] W fun e w' => e = .returned (.tuple #[.int .i64 0, .int .i64 0, .int .i64 0, .bool false]) ∧ W = w') := fun x W h1 h2 h => of_none h1 h2 h W
  obtain ⟨N, hN⟩ : ∃ k : Nat, s / 86400 = k := ⟨(s / 86400).toNat, by omega⟩
  have n1 : 2932897 ≤ (N : Int) := by omega
  have n2 : (N : Int) ≤ 106751991167300 := by omega
  obtain ⟨R, hR⟩ : ∃ k : Nat, s % 86400 = k := ⟨(s % 86400).toNat, by omega⟩
  have r3 : (R : Int) ≤ 86399 := by omega
  have s1 : 0 ≤ s := by omega
  have v1 : Value.int .i64 (s / 86400) = .int .i64 (N : Int) := by rw [hN]
  have v2 : Value.int .i64 (s % 86400) = .int .i64 (R : Int) := by rw [hR]
  clear hN hR
  go_enter Tryz.func101, Tryz.ntmps101
  go_wp2_with (go_at_call 145; refine (HO.out _ _ ?_ ?_ ?_).mono ?_; (omega); (omega); (omega); rintro e' w' ⟨rfl, rfl⟩)
  exact bodyPost_ret (results_row_tmp Tryz.results101 _ _ _ _ rfl (run_loadVar_row _ _ _ _ _ _ _ (heap_alloc_new _ _) Tryz.underlying128 rfl (by kernel_rfl))) rfl ⟨rfl, (Below.refl _ _).alloc (Nat.le_refl _) _⟩
set_option maxRecDepth 100000 in
set_option maxHeartbeats 2000000 in
theorem date_below1 {s : Int} (h : s < -62135596800) (hl : -9223372036854775808 ≤ s) (hm : s.tmod 86400 ≠ 0) (w : World) : Calls Tryz.prog 101 #[.int .i64 s] w fun e w' => e = .returned (.tuple #[dateV 0 0 0 0, .bool false]) ∧ Below w.heap.size w w' := by
  have HO : Hid (∀ (x : Int) (W : World), -9223372036854775808 ≤ x → x ≤ 9223372036854775807 → (x < -719162 ∨ 2932897 ≤ x) → Calls Tryz.prog 145 #[.int .i64 x] W fun e w' => e = .returned (.tuple #[.int .i64 0, .int .i64 0, .int .i64 0, .bool false]) ∧ W = w') := fun x W h1 h2 h => of_none h1 h2 h W
  have ht := tdm s 86400 (by decide)
  obtain ⟨N, hN⟩ : ∃ k : Nat, s.tdiv 86400 = -(k : Int) := ⟨(-(s.tdiv 86400)).toNat, by omega⟩
  have n1 : 719162 ≤ (N : Int) := by omega
  have n2 : (N : Int) ≤ 106751991167300 := by omega
  obtain ⟨R, hR⟩ : ∃ k : Nat, s.tmod 86400 = -(k : Int) := ⟨(-(s.tmod 86400)).toNat, by omega⟩
  have r3 : (R : Int) ≤ 86399 := by omega
  have r4 : 1 ≤ (R : Int) := by omega
  have v1 : Value.int .i64 (s.tdiv 86400) = .int .i64 (-(N : Int)) := by rw [hN]
  have v2 : Value.int .i64 (s.tmod 86400) = .int .i64 (-(R : Int)) := by rw [hR]
  clear hN hm ht hR
  go_enter Tryz.func101, Tryz.ntmps101
  go_wp2_with (go_at_call 145; refine (HO.out _ _ ?_ ?_ ?_).mono ?_; (omega); (omega); (omega); rintro e' w' ⟨rfl, rfl⟩)
  exact bodyPost_ret (results_row_tmp Tryz.results101 _ _ _ _ rfl (run_loadVar_row _ _ _ _ _ _ _ (heap_alloc_new _ _) Tryz.underlying128 rfl (by kernel_rfl))) rfl ⟨rfl, (Below.refl _ _).alloc (Nat.le_refl _) _⟩
set_option maxRecDepth 100000 in
set_option maxHeartbeats 2000000 in
theorem date_below0 {s : Int} (h : s < -62135596800) (hl : -9223372036854775808 ≤ s) (hm : s.tmod 86400 = 0) (w : World) : Calls Tryz.prog 101 #[.int .i64 s] w fun e w' => e = .returned (.tuple #[dateV 0 0 0 0, .bool false]) ∧ Below w.heap.size w w' := by
  have HO : Hid (∀ (x : Int) (W : World), -9223372036854775808 ≤ x → x ≤ 9223372036854775807 → (x < -719162 ∨ 2932897 ≤ x) → Calls Tryz.prog 145 #[.int .i64 x] W fun e w' => e = .returned (.tuple #[.int .i64 0, .int .i64 0, .int .i64 0, .bool false]) ∧ W = w') := fun x W h1 h2 h => of_none h1 h2 h W
  have ht := tdm s 86400 (by decide)
  obtain ⟨N, hN⟩ : ∃ k : Nat, s.tdiv 86400 = -(k : Int) := ⟨(-(s.tdiv 86400)).toNat, by omega⟩
  have n1 : 719163 ≤ (N : Int) := by omega
  have n2 : (N : Int) ≤ 106751991167300 := by omega
  have v1 : Value.int .i64 (s.tdiv 86400) = .int .i64 (-(N : Int)) := by rw [hN]
  have v2 : Value.int .i64 (s.tmod 86400) = .int .i64 (0) := by rw [hm]
  clear hN hm ht
  go_enter Tryz.func101, Tryz.ntmps101
  go_wp2_with (go_at_call 145; refine (HO.out _ _ ?_ ?_ ?_).mono ?_; (omega); (omega); (omega); rintro e' w' ⟨rfl, rfl⟩)
  exact bodyPost_ret (results_row_tmp Tryz.results101 _ _ _ _ rfl (run_loadVar_row _ _ _ _ _ _ _ (heap_alloc_new _ _) Tryz.underlying128 rfl (by kernel_rfl))) rfl ⟨rfl, (Below.refl _ _).alloc (Nat.le_refl _) _⟩
end Go.Proofs.YtcpjkemjpgggcaaGreatDoor
-- Reason
namespace Go.Proofs.YtcpjkemjpgggcaaGreatDoor
open Go.RowKit
def codes : List Int := [100, 400, 408, 413, 417, 431, 501, 502, 504, 505, 508]
def whys : List ByteArray := [⟨#[67, 111, 110, 116, 105, 110, 117, 101]⟩, ⟨#[66, 97, 100, 32, 82, 101, 113, 117, 101, 115, 116]⟩, ⟨#[82, 101, 113, 117, 101, 115, 116, 32, 84, 105, 109, 101, 111, 117, 116]⟩, ⟨#[67, 111, 110, 116, 101, 110, 116, 32, 84, 111, 111, 32, 76, 97, 114, 103, 101]⟩, ⟨#[69, 120, 112, 101, 99, 116, 97, 116, 105, 111, 110, 32, 70, 97, 105, 108, 101, 100]⟩, ⟨#[82, 101, 113, 117, 101, 115, 116, 32, 72, 101, 97, 100, 101, 114, 32, 70, 105, 101, 108, 100, 115, 32, 84, 111, 111, 32, 76, 97, 114, 103, 101]⟩, ⟨#[78, 111, 116, 32, 73, 109, 112, 108, 101, 109, 101, 110, 116, 101, 100]⟩, ⟨#[66, 97, 100, 32, 71, 97, 116, 101, 119, 97, 121]⟩, ⟨#[71, 97, 116, 101, 119, 97, 121, 32, 84, 105, 109, 101, 111, 117, 116]⟩, ⟨#[72, 84, 84, 80, 32, 86, 101, 114, 115, 105, 111, 110, 32, 78, 111, 116, 32, 83, 117, 112, 112, 111, 114, 116, 101, 100]⟩, ⟨#[76, 111, 111, 112, 32, 68, 101, 116, 101, 99, 116, 101, 100]⟩]
def reasonS (n : Int) : ByteArray :=
  if n = 100 then ⟨#[67, 111, 110, 116, 105, 110, 117, 101]⟩ else
  if n = 400 then ⟨#[66, 97, 100, 32, 82, 101, 113, 117, 101, 115, 116]⟩ else
  if n = 408 then ⟨#[82, 101, 113, 117, 101, 115, 116, 32, 84, 105, 109, 101, 111, 117, 116]⟩ else
  if n = 413 then ⟨#[67, 111, 110, 116, 101, 110, 116, 32, 84, 111, 111, 32, 76, 97, 114, 103, 101]⟩ else
  if n = 417 then ⟨#[69, 120, 112, 101, 99, 116, 97, 116, 105, 111, 110, 32, 70, 97, 105, 108, 101, 100]⟩ else
  if n = 431 then ⟨#[82, 101, 113, 117, 101, 115, 116, 32, 72, 101, 97, 100, 101, 114, 32, 70, 105, 101, 108, 100, 115, 32, 84, 111, 111, 32, 76, 97, 114, 103, 101]⟩ else
  if n = 501 then ⟨#[78, 111, 116, 32, 73, 109, 112, 108, 101, 109, 101, 110, 116, 101, 100]⟩ else
  if n = 502 then ⟨#[66, 97, 100, 32, 71, 97, 116, 101, 119, 97, 121]⟩ else
  if n = 504 then ⟨#[71, 97, 116, 101, 119, 97, 121, 32, 84, 105, 109, 101, 111, 117, 116]⟩ else
  if n = 505 then ⟨#[72, 84, 84, 80, 32, 86, 101, 114, 115, 105, 111, 110, 32, 78, 111, 116, 32, 83, 117, 112, 112, 111, 114, 116, 101, 100]⟩ else
  if n = 508 then ⟨#[76, 111, 111, 112, 32, 68, 101, 116, 101, 99, 116, 101, 100]⟩ else
  ⟨#[]⟩
theorem reason_at : ∀ k : Nat, k < 11 → ∃ c y, codes[k]? = some c ∧ whys[k]? = some y ∧ reasonS c = y
  | 0, _ => ⟨_, _, rfl, rfl, rfl⟩
  | 1, _ => ⟨_, _, rfl, rfl, rfl⟩
  | 2, _ => ⟨_, _, rfl, rfl, rfl⟩
  | 3, _ => ⟨_, _, rfl, rfl, rfl⟩
  | 4, _ => ⟨_, _, rfl, rfl, rfl⟩
  | 5, _ => ⟨_, _, rfl, rfl, rfl⟩
  | 6, _ => ⟨_, _, rfl, rfl, rfl⟩
  | 7, _ => ⟨_, _, rfl, rfl, rfl⟩
  | 8, _ => ⟨_, _, rfl, rfl, rfl⟩
  | 9, _ => ⟨_, _, rfl, rfl, rfl⟩
  | 10, _ => ⟨_, _, rfl, rfl, rfl⟩
  | k + 11, h => by omega
theorem reason_none {n : Int} (h : ∀ k : Nat, k < 11 → ∀ c, codes[k]? = some c → c ≠ n) : reasonS n = ⟨#[]⟩ := by
  unfold reasonS
  rw [if_neg (Ne.symm (h 0 (by omega) 100 rfl)), if_neg (Ne.symm (h 1 (by omega) 400 rfl)), if_neg (Ne.symm (h 2 (by omega) 408 rfl)), if_neg (Ne.symm (h 3 (by omega) 413 rfl)), if_neg (Ne.symm (h 4 (by omega) 417 rfl)), if_neg (Ne.symm (h 5 (by omega) 431 rfl)), if_neg (Ne.symm (h 6 (by omega) 501 rfl)), if_neg (Ne.symm (h 7 (by omega) 502 rfl)), if_neg (Ne.symm (h 8 (by omega) 504 rfl)), if_neg (Ne.symm (h 9 (by omega) 505 rfl)), if_neg (Ne.symm (h 10 (by omega) 508 rfl))]
set_option maxRecDepth 100000 in
set_option maxHeartbeats 2000000 in
theorem reason_any (n : Int) (w : World) : Calls Tryz.prog 63 #[.int .i64 n] w fun e w' => e = .returned (.string (reasonS n)) ∧ w = w' := by
  by_cases h0 : n = 100
  · subst h0
    go_enter Tryz.func63, Tryz.ntmps63
    go_wp2_with fail
    go_ret
    exact ⟨rfl, rfl⟩
  have b0 : (n == 100) = false := by simpa using h0
  by_cases h1 : n = 400
  · subst h1
    go_enter Tryz.func63, Tryz.ntmps63
    go_wp2_with fail
    go_ret
    exact ⟨rfl, rfl⟩
  have b1 : (n == 400) = false := by simpa using h1
  by_cases h2 : n = 408
  · subst h2
    go_enter Tryz.func63, Tryz.ntmps63
    go_wp2_with fail
    go_ret
    exact ⟨rfl, rfl⟩
  have b2 : (n == 408) = false := by simpa using h2
  by_cases h3 : n = 413
  · subst h3
    go_enter Tryz.func63, Tryz.ntmps63
    go_wp2_with fail
    go_ret
    exact ⟨rfl, rfl⟩
  have b3 : (n == 413) = false := by simpa using h3
  by_cases h4 : n = 417
  · subst h4
    go_enter Tryz.func63, Tryz.ntmps63
    go_wp2_with fail
    go_ret
    exact ⟨rfl, rfl⟩
  have b4 : (n == 417) = false := by simpa using h4
  by_cases h5 : n = 431
  · subst h5
    go_enter Tryz.func63, Tryz.ntmps63
    go_wp2_with fail
    go_ret
    exact ⟨rfl, rfl⟩
  have b5 : (n == 431) = false := by simpa using h5
  by_cases h6 : n = 501
  · subst h6
    go_enter Tryz.func63, Tryz.ntmps63
    go_wp2_with fail
    go_ret
    exact ⟨rfl, rfl⟩
  have b6 : (n == 501) = false := by simpa using h6
  by_cases h7 : n = 502
  · subst h7
    go_enter Tryz.func63, Tryz.ntmps63
    go_wp2_with fail
    go_ret
    exact ⟨rfl, rfl⟩
  have b7 : (n == 502) = false := by simpa using h7
  by_cases h8 : n = 504
  · subst h8
    go_enter Tryz.func63, Tryz.ntmps63
    go_wp2_with fail
    go_ret
    exact ⟨rfl, rfl⟩
  have b8 : (n == 504) = false := by simpa using h8
  by_cases h9 : n = 505
  · subst h9
    go_enter Tryz.func63, Tryz.ntmps63
    go_wp2_with fail
    go_ret
    exact ⟨rfl, rfl⟩
  have b9 : (n == 505) = false := by simpa using h9
  by_cases h10 : n = 508
  · subst h10
    go_enter Tryz.func63, Tryz.ntmps63
    go_wp2_with fail
    go_ret
    exact ⟨rfl, rfl⟩
  have b10 : (n == 508) = false := by simpa using h10
  have HN : Hid (reasonS n = ⟨#[]⟩) := by
    show reasonS n = ⟨#[]⟩
    unfold reasonS
    rw [if_neg h0, if_neg h1, if_neg h2, if_neg h3, if_neg h4, if_neg h5, if_neg h6, if_neg h7, if_neg h8, if_neg h9, if_neg h10]
  clear h0 h1 h2 h3 h4 h5 h6 h7 h8 h9 h10
  go_enter Tryz.func63, Tryz.ntmps63
  go_wp2_with fail
  go_ret
  rw [HN.out]
  exact ⟨rfl, rfl⟩
end Go.Proofs.YtcpjkemjpgggcaaGreatDoor
-- ReasonR
namespace Go.Proofs.YtcpjkemjpgggcaaGreatDoor
open Go.RowKit
def codeV : Array Value := #[.int .i64 100, .int .i64 400, .int .i64 408, .int .i64 413, .int .i64 417, .int .i64 431, .int .i64 501, .int .i64 502, .int .i64 504, .int .i64 505, .int .i64 508]
def whyV : Array Value := #[.string ⟨#[67, 111, 110, 116, 105, 110, 117, 101]⟩, .string ⟨#[66, 97, 100, 32, 82, 101, 113, 117, 101, 115, 116]⟩, .string ⟨#[82, 101, 113, 117, 101, 115, 116, 32, 84, 105, 109, 101, 111, 117, 116]⟩, .string ⟨#[67, 111, 110, 116, 101, 110, 116, 32, 84, 111, 111, 32, 76, 97, 114, 103, 101]⟩, .string ⟨#[69, 120, 112, 101, 99, 116, 97, 116, 105, 111, 110, 32, 70, 97, 105, 108, 101, 100]⟩, .string ⟨#[82, 101, 113, 117, 101, 115, 116, 32, 72, 101, 97, 100, 101, 114, 32, 70, 105, 101, 108, 100, 115, 32, 84, 111, 111, 32, 76, 97, 114, 103, 101]⟩, .string ⟨#[78, 111, 116, 32, 73, 109, 112, 108, 101, 109, 101, 110, 116, 101, 100]⟩, .string ⟨#[66, 97, 100, 32, 71, 97, 116, 101, 119, 97, 121]⟩, .string ⟨#[71, 97, 116, 101, 119, 97, 121, 32, 84, 105, 109, 101, 111, 117, 116]⟩, .string ⟨#[72, 84, 84, 80, 32, 86, 101, 114, 115, 105, 111, 110, 32, 78, 111, 116, 32, 83, 117, 112, 112, 111, 114, 116, 101, 100]⟩, .string ⟨#[76, 111, 111, 112, 32, 68, 101, 116, 101, 99, 116, 101, 100]⟩]
theorem codeV_get {k : Nat} {c : Int} (h : codes[k]? = some c) : codeV[k]? = some (.int .i64 c) := by
  have e : codeV = (codes.map (Value.int .i64)).toArray := rfl
  rw [e, List.getElem?_toArray, List.getElem?_map, h]; rfl
theorem whyV_get {k : Nat} {y : ByteArray} (h : whys[k]? = some y) : whyV[k]? = some (.string y) := by
  have e : whyV = (whys.map Value.string).toArray := rfl
  rw [e, List.getElem?_toArray, List.getElem?_map, h]; rfl
end Go.Proofs.YtcpjkemjpgggcaaGreatDoor
-- RefHead
namespace Go.Proofs.YtcpjkemjpgggcaaGreatDoor
open Go.RowKit
/-- The number of a version that is spoken. -/
def verN (k : Int) : Int := if 0 < k then 1 else 0
def contS : ByteArray := ⟨#[67, 111, 110, 116, 105, 110, 117, 101]⟩
def contV (k : Int) : Value := .agg #[.string ⟨#[]⟩, .string ⟨#[]⟩, .int .i64 (verN k), .int .i64 100, .string ⟨#[67, 111, 110, 116, 105, 110, 117, 101]⟩, .slice none 0 0]
set_option maxRecDepth 100000 in
theorem version_any (k : Int) (h : -9223372036854775808 ≤ k) (h' : k ≤ 9223372036854775807) (w : World) : Calls Tryz.prog 62 #[.int .i64 k] w fun e w' => e = .returned (.int .i64 (verN k)) ∧ w = w' := by
  by_cases h1 : 1 ≤ k
  · have HV : Hid (verN k = 1) := by show verN k = 1; unfold verN; rw [if_pos (by omega)]
    by_cases h3 : k = 1
    · subst h3
      clear h1
      go_enter Tryz.func62, Tryz.ntmps62
      go_wp2_with fail
      go_ret
      rw [HV.out]
      exact ⟨rfl, rfl⟩
    have h2 : 2 ≤ k := by omega
    clear h1 h3
    go_enter Tryz.func62, Tryz.ntmps62
    go_wp2_with fail
    go_ret
    rw [HV.out]
    exact ⟨rfl, rfl⟩
  · have HV : Hid (verN k = 0) := by show verN k = 0; unfold verN; rw [if_neg (by omega)]
    have h2 : k ≤ 0 := by omega
    clear h1
    go_enter Tryz.func62, Tryz.ntmps62
    go_wp2_with fail
    go_ret
    rw [HV.out]
    exact ⟨rfl, rfl⟩
set_option maxRecDepth 100000 in
theorem continue_any (k : Int) (h : -9223372036854775808 ≤ k) (h' : k ≤ 9223372036854775807) (w : World) : Calls Tryz.prog 31 #[.int .i64 k] w fun e w' => e = .returned (contV k) ∧ Below w.heap.size w w' := by
  have HK := Lib.hid (fun W => version_any k h h' W)
  have HR := Lib.hid (fun W => reason_any 100 W)
  have e : reasonS 100 = ⟨#[67, 111, 110, 116, 105, 110, 117, 101]⟩ := by unfold reasonS; rfl
  rw [e] at HR
  clear e
  obtain ⟨v, hv⟩ : ∃ v, v = verN k := ⟨_, rfl⟩
  unfold contV
  rw [← hv] at HK ⊢
  clear hv
  go_enter Tryz.func31, Tryz.ntmps31
  go_wp2_with (first | (go_at_call 62; refine (HK.out _).mono ?_; rintro e' w' ⟨rfl, rfl⟩) | (go_at_call 63; refine (HR.out _).mono ?_; rintro e' w' ⟨rfl, rfl⟩))
  exact bodyPost_ret (results_cell_row Tryz.results31 _ _ _ _ _ _ _ rfl (heap_alloc_new _ _) Tryz.underlying24 rfl (by kernel_rfl)) rfl ⟨rfl, (Below.refl _ _).alloc (Nat.le_refl _) _⟩
end Go.Proofs.YtcpjkemjpgggcaaGreatDoor
-- RefStat
namespace Go.Proofs.YtcpjkemjpgggcaaGreatDoor
open Go.RowKit
/-- What an asker's error comes to. -/
def errStat (e : Int) : Int := if e = 21 then 408 else if e = 20 then 413 else if e = 18 then 417 else if e = 4 then 431 else if e = 10 then 501 else if e = 15 then 501 else if e = 9 then 505 else if e = 17 then 508 else 400
/-- The status of an error on a side. -/
def statB (side e : Int) : Int := if side = 1 then errStat e else if e = 21 then 504 else 502
set_option maxRecDepth 100000 in
theorem rrows_any (w : World) : Calls Tryz.prog 61 #[] w fun e w' => e = .returned (.agg #[.int .i64 21, .int .i64 408, .int .i64 20, .int .i64 413, .int .i64 18, .int .i64 417, .int .i64 4, .int .i64 431, .int .i64 10, .int .i64 501, .int .i64 15, .int .i64 501, .int .i64 9, .int .i64 505, .int .i64 17, .int .i64 508]) ∧ Below w.heap.size w w' := by
  go_enter Tryz.func61, Tryz.ntmps61
  go_wp2_with fail
  exact bodyPost_ret (results_cell_row Tryz.results61 _ _ _ _ _ _ _ rfl (heap_alloc_new _ _) Tryz.underlying102 rfl (by kernel_rfl)) rfl ⟨rfl, (Below.refl _ _).alloc (Nat.le_refl _) _⟩
set_option maxRecDepth 100000 in
set_option maxHeartbeats 2000000 in
theorem stat_asker (e : Int) (w : World) : Calls Tryz.prog 26 #[.int .i64 1, .int .i64 e] w fun x w' => x = .returned (.int .i64 (errStat e)) ∧ Below w.heap.size w w' := by
  go_enter Tryz.func26, Tryz.ntmps26
  go_wp2_with (go_at_call 61; refine (rrows_any _).mono ?_; rintro e' w' ⟨rfl, hb⟩; have HB := Lib.hid hb; clear hb)
  go_loopw [18] (fun iv wr => ∃ k : Nat, iv = .int .i64 k ∧ k ≤ 8 ∧ (k = 8 → errStat e = 400) ∧ (∀ j, j < k → ([21, 20, 18, 4, 10, 15, 9, 17] : List Int)[j]? ≠ some e) ∧ Below w.heap.size w wr) (fun iv _ => 8 - (intOf iv).toNat)
  case atStart => exact ⟨0, rfl, by omega, by omega, fun j h => by omega, HB.out⟩
  case round =>
    obtain ⟨k, rfl, hk, h8, hno, hbel⟩ := hrel
    have HL := Lib.hid hbel
    have HN := Lib.hid hno
    have H8 := Lib.hid h8
    clear HB hbel hno h8
    have hks : k = 0 ∨ k = 1 ∨ k = 2 ∨ k = 3 ∨ k = 4 ∨ k = 5 ∨ k = 6 ∨ k = 7 ∨ k = 8 := by omega
    clear hk
    rcases hks with rfl | rfl | rfl | rfl | rfl | rfl | rfl | rfl | rfl
    · have hix : ∀ W : World, (Instr.index 102 (.agg #[.int .i64 21, .int .i64 408, .int .i64 20, .int .i64 413, .int .i64 18, .int .i64 417, .int .i64 4, .int .i64 431, .int .i64 10, .int .i64 501, .int .i64 15, .int .i64 501, .int .i64 9, .int .i64 505, .int .i64 17, .int .i64 508]) (.int .i64 0)).run Tryz.prog W = .ok (.agg #[.int .i64 21, .int .i64 408]) W := fun W => by kernel_rfl
      by_cases he : e = 21
      · have HV : Hid (errStat e = 408) := by show errStat e = 408; subst he; decide
        clear H8
        subst he
        go_wp2_with fail
        go_ret
        rw [HV.out]
        exact ⟨rfl, HL.out.alloc HL.out.size _⟩
      · have q1 : (21 == e) = false := beq_no (fun h => he h.symm)
        have q2 : (e == 21) = false := beq_no he
        have HX : Hid (∀ j, j < 1 → ([21, 20, 18, 4, 10, 15, 9, 17] : List Int)[j]? ≠ some e) := by
          show ∀ j, _ → _
          intro j hj
          by_cases hjk : j < 0
          · exact HN.out j hjk
          · obtain rfl : j = 0 := by omega
            exact fun h => he (Option.some.inj h).symm
        have HY : Hid (1 = 8 → errStat e = 400) := by
          show _ → _
          intro h8
          omega
        clear  H8
        go_wp2_with fail
        go_roundw
        case rel => exact ⟨1, rfl, by omega, HY.out, HX.out, HL.out.alloc HL.out.size _⟩
        case measure => simp [intOf]
    · have hix : ∀ W : World, (Instr.index 102 (.agg #[.int .i64 21, .int .i64 408, .int .i64 20, .int .i64 413, .int .i64 18, .int .i64 417, .int .i64 4, .int .i64 431, .int .i64 10, .int .i64 501, .int .i64 15, .int .i64 501, .int .i64 9, .int .i64 505, .int .i64 17, .int .i64 508]) (.int .i64 1)).run Tryz.prog W = .ok (.agg #[.int .i64 20, .int .i64 413]) W := fun W => by kernel_rfl
      have n0 : e ≠ 21 := fun h => HN.out 0 (by omega) (by rw [h]; rfl)
      by_cases he : e = 20
      · have HV : Hid (errStat e = 413) := by show errStat e = 413; subst he; decide
        clear n0
        subst he
        go_wp2_with fail
        go_ret
        rw [HV.out]
        exact ⟨rfl, HL.out.alloc HL.out.size _⟩
      · have q1 : (20 == e) = false := beq_no (fun h => he h.symm)
        have q2 : (e == 20) = false := beq_no he
        have HX : Hid (∀ j, j < 2 → ([21, 20, 18, 4, 10, 15, 9, 17] : List Int)[j]? ≠ some e) := by
          show ∀ j, _ → _
          intro j hj
          by_cases hjk : j < 1
          · exact HN.out j hjk
          · obtain rfl : j = 1 := by omega
            exact fun h => he (Option.some.inj h).symm
        have HY : Hid (2 = 8 → errStat e = 400) := by
          show _ → _
          intro h8
          omega
        clear n0 H8
        go_wp2_with fail
        go_roundw
        case rel => exact ⟨2, rfl, by omega, HY.out, HX.out, HL.out.alloc HL.out.size _⟩
        case measure => simp [intOf]
    · have hix : ∀ W : World, (Instr.index 102 (.agg #[.int .i64 21, .int .i64 408, .int .i64 20, .int .i64 413, .int .i64 18, .int .i64 417, .int .i64 4, .int .i64 431, .int .i64 10, .int .i64 501, .int .i64 15, .int .i64 501, .int .i64 9, .int .i64 505, .int .i64 17, .int .i64 508]) (.int .i64 2)).run Tryz.prog W = .ok (.agg #[.int .i64 18, .int .i64 417]) W := fun W => by kernel_rfl
      have n0 : e ≠ 21 := fun h => HN.out 0 (by omega) (by rw [h]; rfl)
      have n1 : e ≠ 20 := fun h => HN.out 1 (by omega) (by rw [h]; rfl)
      by_cases he : e = 18
      · have HV : Hid (errStat e = 417) := by show errStat e = 417; subst he; decide
        clear n0 n1
        subst he
        go_wp2_with fail
        go_ret
        rw [HV.out]
        exact ⟨rfl, HL.out.alloc HL.out.size _⟩
      · have q1 : (18 == e) = false := beq_no (fun h => he h.symm)
        have q2 : (e == 18) = false := beq_no he
        have HX : Hid (∀ j, j < 3 → ([21, 20, 18, 4, 10, 15, 9, 17] : List Int)[j]? ≠ some e) := by
          show ∀ j, _ → _
          intro j hj
          by_cases hjk : j < 2
          · exact HN.out j hjk
          · obtain rfl : j = 2 := by omega
            exact fun h => he (Option.some.inj h).symm
        have HY : Hid (3 = 8 → errStat e = 400) := by
          show _ → _
          intro h8
          omega
        clear n0 n1 H8
        go_wp2_with fail
        go_roundw
        case rel => exact ⟨3, rfl, by omega, HY.out, HX.out, HL.out.alloc HL.out.size _⟩
        case measure => simp [intOf]
    · have hix : ∀ W : World, (Instr.index 102 (.agg #[.int .i64 21, .int .i64 408, .int .i64 20, .int .i64 413, .int .i64 18, .int .i64 417, .int .i64 4, .int .i64 431, .int .i64 10, .int .i64 501, .int .i64 15, .int .i64 501, .int .i64 9, .int .i64 505, .int .i64 17, .int .i64 508]) (.int .i64 3)).run Tryz.prog W = .ok (.agg #[.int .i64 4, .int .i64 431]) W := fun W => by kernel_rfl
      have n0 : e ≠ 21 := fun h => HN.out 0 (by omega) (by rw [h]; rfl)
      have n1 : e ≠ 20 := fun h => HN.out 1 (by omega) (by rw [h]; rfl)
      have n2 : e ≠ 18 := fun h => HN.out 2 (by omega) (by rw [h]; rfl)
      by_cases he : e = 4
      · have HV : Hid (errStat e = 431) := by show errStat e = 431; subst he; decide
        clear n0 n1 n2
        subst he
        go_wp2_with fail
        go_ret
        rw [HV.out]
        exact ⟨rfl, HL.out.alloc HL.out.size _⟩
      · have q1 : (4 == e) = false := beq_no (fun h => he h.symm)
        have q2 : (e == 4) = false := beq_no he
        have HX : Hid (∀ j, j < 4 → ([21, 20, 18, 4, 10, 15, 9, 17] : List Int)[j]? ≠ some e) := by
          show ∀ j, _ → _
          intro j hj
          by_cases hjk : j < 3
          · exact HN.out j hjk
          · obtain rfl : j = 3 := by omega
            exact fun h => he (Option.some.inj h).symm
        have HY : Hid (4 = 8 → errStat e = 400) := by
          show _ → _
          intro h8
          omega
        clear n0 n1 n2 H8
        go_wp2_with fail
        go_roundw
        case rel => exact ⟨4, rfl, by omega, HY.out, HX.out, HL.out.alloc HL.out.size _⟩
        case measure => simp [intOf]
    · have hix : ∀ W : World, (Instr.index 102 (.agg #[.int .i64 21, .int .i64 408, .int .i64 20, .int .i64 413, .int .i64 18, .int .i64 417, .int .i64 4, .int .i64 431, .int .i64 10, .int .i64 501, .int .i64 15, .int .i64 501, .int .i64 9, .int .i64 505, .int .i64 17, .int .i64 508]) (.int .i64 4)).run Tryz.prog W = .ok (.agg #[.int .i64 10, .int .i64 501]) W := fun W => by kernel_rfl
      have n0 : e ≠ 21 := fun h => HN.out 0 (by omega) (by rw [h]; rfl)
      have n1 : e ≠ 20 := fun h => HN.out 1 (by omega) (by rw [h]; rfl)
      have n2 : e ≠ 18 := fun h => HN.out 2 (by omega) (by rw [h]; rfl)
      have n3 : e ≠ 4 := fun h => HN.out 3 (by omega) (by rw [h]; rfl)
      by_cases he : e = 10
      · have HV : Hid (errStat e = 501) := by show errStat e = 501; subst he; decide
        clear n0 n1 n2 n3
        subst he
        go_wp2_with fail
        go_ret
        rw [HV.out]
        exact ⟨rfl, HL.out.alloc HL.out.size _⟩
      · have q1 : (10 == e) = false := beq_no (fun h => he h.symm)
        have q2 : (e == 10) = false := beq_no he
        have HX : Hid (∀ j, j < 5 → ([21, 20, 18, 4, 10, 15, 9, 17] : List Int)[j]? ≠ some e) := by
          show ∀ j, _ → _
          intro j hj
          by_cases hjk : j < 4
          · exact HN.out j hjk
          · obtain rfl : j = 4 := by omega
            exact fun h => he (Option.some.inj h).symm
        have HY : Hid (5 = 8 → errStat e = 400) := by
          show _ → _
          intro h8
          omega
        clear n0 n1 n2 n3 H8
        go_wp2_with fail
        go_roundw
        case rel => exact ⟨5, rfl, by omega, HY.out, HX.out, HL.out.alloc HL.out.size _⟩
        case measure => simp [intOf]
    · have hix : ∀ W : World, (Instr.index 102 (.agg #[.int .i64 21, .int .i64 408, .int .i64 20, .int .i64 413, .int .i64 18, .int .i64 417, .int .i64 4, .int .i64 431, .int .i64 10, .int .i64 501, .int .i64 15, .int .i64 501, .int .i64 9, .int .i64 505, .int .i64 17, .int .i64 508]) (.int .i64 5)).run Tryz.prog W = .ok (.agg #[.int .i64 15, .int .i64 501]) W := fun W => by kernel_rfl
      have n0 : e ≠ 21 := fun h => HN.out 0 (by omega) (by rw [h]; rfl)
      have n1 : e ≠ 20 := fun h => HN.out 1 (by omega) (by rw [h]; rfl)
      have n2 : e ≠ 18 := fun h => HN.out 2 (by omega) (by rw [h]; rfl)
      have n3 : e ≠ 4 := fun h => HN.out 3 (by omega) (by rw [h]; rfl)
      have n4 : e ≠ 10 := fun h => HN.out 4 (by omega) (by rw [h]; rfl)
      by_cases he : e = 15
      · have HV : Hid (errStat e = 501) := by show errStat e = 501; subst he; decide
        clear n0 n1 n2 n3 n4
        subst he
        go_wp2_with fail
        go_ret
        rw [HV.out]
        exact ⟨rfl, HL.out.alloc HL.out.size _⟩
      · have q1 : (15 == e) = false := beq_no (fun h => he h.symm)
        have q2 : (e == 15) = false := beq_no he
        have HX : Hid (∀ j, j < 6 → ([21, 20, 18, 4, 10, 15, 9, 17] : List Int)[j]? ≠ some e) := by
          show ∀ j, _ → _
          intro j hj
          by_cases hjk : j < 5
          · exact HN.out j hjk
          · obtain rfl : j = 5 := by omega
            exact fun h => he (Option.some.inj h).symm
        have HY : Hid (6 = 8 → errStat e = 400) := by
          show _ → _
          intro h8
          omega
        clear n0 n1 n2 n3 n4 H8
        go_wp2_with fail
        go_roundw
        case rel => exact ⟨6, rfl, by omega, HY.out, HX.out, HL.out.alloc HL.out.size _⟩
        case measure => simp [intOf]
    · have hix : ∀ W : World, (Instr.index 102 (.agg #[.int .i64 21, .int .i64 408, .int .i64 20, .int .i64 413, .int .i64 18, .int .i64 417, .int .i64 4, .int .i64 431, .int .i64 10, .int .i64 501, .int .i64 15, .int .i64 501, .int .i64 9, .int .i64 505, .int .i64 17, .int .i64 508]) (.int .i64 6)).run Tryz.prog W = .ok (.agg #[.int .i64 9, .int .i64 505]) W := fun W => by kernel_rfl
      have n0 : e ≠ 21 := fun h => HN.out 0 (by omega) (by rw [h]; rfl)
      have n1 : e ≠ 20 := fun h => HN.out 1 (by omega) (by rw [h]; rfl)
      have n2 : e ≠ 18 := fun h => HN.out 2 (by omega) (by rw [h]; rfl)
      have n3 : e ≠ 4 := fun h => HN.out 3 (by omega) (by rw [h]; rfl)
      have n4 : e ≠ 10 := fun h => HN.out 4 (by omega) (by rw [h]; rfl)
      have n5 : e ≠ 15 := fun h => HN.out 5 (by omega) (by rw [h]; rfl)
      by_cases he : e = 9
      · have HV : Hid (errStat e = 505) := by show errStat e = 505; subst he; decide
        clear n0 n1 n2 n3 n4 n5
        subst he
        go_wp2_with fail
        go_ret
        rw [HV.out]
        exact ⟨rfl, HL.out.alloc HL.out.size _⟩
      · have q1 : (9 == e) = false := beq_no (fun h => he h.symm)
        have q2 : (e == 9) = false := beq_no he
        have HX : Hid (∀ j, j < 7 → ([21, 20, 18, 4, 10, 15, 9, 17] : List Int)[j]? ≠ some e) := by
          show ∀ j, _ → _
          intro j hj
          by_cases hjk : j < 6
          · exact HN.out j hjk
          · obtain rfl : j = 6 := by omega
            exact fun h => he (Option.some.inj h).symm
        have HY : Hid (7 = 8 → errStat e = 400) := by
          show _ → _
          intro h8
          omega
        clear n0 n1 n2 n3 n4 n5 H8
        go_wp2_with fail
        go_roundw
        case rel => exact ⟨7, rfl, by omega, HY.out, HX.out, HL.out.alloc HL.out.size _⟩
        case measure => simp [intOf]
    · have hix : ∀ W : World, (Instr.index 102 (.agg #[.int .i64 21, .int .i64 408, .int .i64 20, .int .i64 413, .int .i64 18, .int .i64 417, .int .i64 4, .int .i64 431, .int .i64 10, .int .i64 501, .int .i64 15, .int .i64 501, .int .i64 9, .int .i64 505, .int .i64 17, .int .i64 508]) (.int .i64 7)).run Tryz.prog W = .ok (.agg #[.int .i64 17, .int .i64 508]) W := fun W => by kernel_rfl
      have n0 : e ≠ 21 := fun h => HN.out 0 (by omega) (by rw [h]; rfl)
      have n1 : e ≠ 20 := fun h => HN.out 1 (by omega) (by rw [h]; rfl)
      have n2 : e ≠ 18 := fun h => HN.out 2 (by omega) (by rw [h]; rfl)
      have n3 : e ≠ 4 := fun h => HN.out 3 (by omega) (by rw [h]; rfl)
      have n4 : e ≠ 10 := fun h => HN.out 4 (by omega) (by rw [h]; rfl)
      have n5 : e ≠ 15 := fun h => HN.out 5 (by omega) (by rw [h]; rfl)
      have n6 : e ≠ 9 := fun h => HN.out 6 (by omega) (by rw [h]; rfl)
      by_cases he : e = 17
      · have HV : Hid (errStat e = 508) := by show errStat e = 508; subst he; decide
        clear n0 n1 n2 n3 n4 n5 n6
        subst he
        go_wp2_with fail
        go_ret
        rw [HV.out]
        exact ⟨rfl, HL.out.alloc HL.out.size _⟩
      · have q1 : (17 == e) = false := beq_no (fun h => he h.symm)
        have q2 : (e == 17) = false := beq_no he
        have HX : Hid (∀ j, j < 8 → ([21, 20, 18, 4, 10, 15, 9, 17] : List Int)[j]? ≠ some e) := by
          show ∀ j, _ → _
          intro j hj
          by_cases hjk : j < 7
          · exact HN.out j hjk
          · obtain rfl : j = 7 := by omega
            exact fun h => he (Option.some.inj h).symm
        have HY : Hid (8 = 8 → errStat e = 400) := by
          show _ → _
          intro h8
          unfold errStat; simp [n0, n1, n2, n3, n4, n5, n6, he]
        clear n0 n1 n2 n3 n4 n5 n6 H8
        go_wp2_with fail
        go_roundw
        case rel => exact ⟨8, rfl, by omega, HY.out, HX.out, HL.out.alloc HL.out.size _⟩
        case measure => simp [intOf]
    · have HV := Lib.hid (H8.out rfl)
      go_wp2_with fail
      go_ret
      rw [HV.out]
      exact ⟨rfl, HL.out⟩
set_option maxRecDepth 100000 in
theorem stat_other (side e : Int) (hs : side ≠ 1) (w : World) : Calls Tryz.prog 26 #[.int .i64 side, .int .i64 e] w fun x w' => x = .returned (.int .i64 (statB side e)) ∧ Below w.heap.size w w' := by
  have hs1 : (side == 1) = false := beq_no hs
  have hs2 : (side != 1) = true := bne_yes hs
  have hs3 : decide (side = 1) = false := dec_no hs
  by_cases he : e = 21
  · have HV : Hid (statB side e = 504) := by show statB side e = 504; unfold statB; rw [if_neg hs, if_pos he]
    subst he
    clear hs
    go_enter Tryz.func26, Tryz.ntmps26
    go_wp2_with fail
    go_ret
    rw [HV.out]
    exact ⟨rfl, Below.refl _ _⟩
  · have HV : Hid (statB side e = 502) := by show statB side e = 502; unfold statB; rw [if_neg hs, if_neg he]
    have he1 : (e == 21) = false := beq_no he
    have he2 : (e != 21) = true := bne_yes he
    have he3 : decide (e = 21) = false := dec_no he
    clear hs he
    go_enter Tryz.func26, Tryz.ntmps26
    go_wp2_with fail
    go_ret
    rw [HV.out]
    exact ⟨rfl, Below.refl _ _⟩
theorem refstat_any (side e : Int) (w : World) : Calls Tryz.prog 26 #[.int .i64 side, .int .i64 e] w fun x w' => x = .returned (.int .i64 (statB side e)) ∧ Below w.heap.size w w' := by
  by_cases hs : side = 1
  · subst hs
    exact stat_asker e w
  · exact stat_other side e hs w
end Go.Proofs.YtcpjkemjpgggcaaGreatDoor
-- CivilR
namespace Go.Proofs.YtcpjkemjpgggcaaGreatDoor
open Go.RowKit Civ
theorem dayY_70 : dayY 1970 = 0 := by decide
theorem dayY_bounds (k : Int) (h1 : 1 ≤ k) (h2 : k ≤ 10000) : -719162 ≤ dayY k ∧ dayY k ≤ 2932897 := by
  have h3 : dayY 1 ≤ dayY k := dayY_le (by decide) h1
  have h4 : dayY k ≤ dayY 10000 := dayY_le h1 h2
  have e1 : dayY 1 = -719162 := by decide
  have e2 : dayY 10000 = 2932897 := by decide
  omega
theorem dayM_bounds (y k : Int) : 0 ≤ dayM y k ∧ dayM y k ≤ 366 := by
  unfold dayM
  repeat' split
  all_goals omega
end Go.Proofs.YtcpjkemjpgggcaaGreatDoor
-- CivilS
namespace Go.Proofs.YtcpjkemjpgggcaaGreatDoor
open Go.RowKit Civ
theorem blk_date {W : World} {g : Nat} {t : TypeId} {z0 z1 z2 z3 z4 z5 : Value} (h : Blk W g #[z0, z1, z2, z3, z4, z5] t) (a b c d e f : Value) :
    Blk ((((((W.setCell ⟨g, 0, none⟩ a).setCell ⟨g, 1, none⟩ b).setCell ⟨g, 2, none⟩ c).setCell ⟨g, 3, none⟩ d).setCell ⟨g, 4, none⟩ e).setCell ⟨g, 5, none⟩ f) g #[a, b, c, d, e, f] t :=
  (((((h.set 0 a).set 1 b).set 2 c).set 3 d).set 4 e).set 5 f
theorem below_date {w W : World} {g : Nat} (h : Below w.heap.size w W) (hg : w.heap.size ≤ g) (a b c d e f : Value) :
    Below w.heap.size w ((((((W.setCell ⟨g, 0, none⟩ a).setCell ⟨g, 1, none⟩ b).setCell ⟨g, 2, none⟩ c).setCell ⟨g, 3, none⟩ d).setCell ⟨g, 4, none⟩ e).setCell ⟨g, 5, none⟩ f) :=
  (((((h.setCell hg a).setCell hg b).setCell hg c).setCell hg d).setCell hg e).setCell hg f
end Go.Proofs.YtcpjkemjpgggcaaGreatDoor
-- Held
namespace Go
/-- What holds between the operations may be known to be more from here on. -/
theorem wpAnyH_grow {P : Program} {md : Region.Mode} {ops : Array Oper} {Q : Exit → Act → World → Prop} {S T : World → Prop} (h : ∀ w, T w → S w) :
    ∀ (fuel : Nat) (listed : Array Bool) (a : Act) (w : World), wpAnyH P md ops Q T fuel listed a w → wpAnyH P md ops Q S fuel listed a w
  | 0, _, _, _, k => k
  | fuel + 1, _, _, _, k => ⟨k.1, fun i hi => wpOp_mono (fun a' w' h' => ⟨h w' h'.1, wpAnyH_grow h fuel _ a' w' h'.2⟩) (k.2 i hi)⟩
theorem wp_region_at {P : Program} {S : World → Prop} {id : Nat} {ops : Array Oper} {Q : Exit → Act → World → Prop} {a : Act} {w : World} (hm : P.follows .mixedOrders = true) (h : ∀ w1, w1 = w.drew → wpAnyH P .any ops Q S ops.size (Array.replicate ops.size false) a w1) : (Code.region id ops true).wp P Q a w := wp_region_held hm (h _ rfl)
end Go
