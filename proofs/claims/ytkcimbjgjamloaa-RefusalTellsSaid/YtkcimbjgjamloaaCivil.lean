/- The calendar in plain Lean: no program in sight. -/
import Derived.Test.YtkcimbjgjamloaaBase
namespace Go.Proofs.Ytkcimbjgjamloaa
namespace Civ
/-- Is a year a leap year? -/
def leapB (y : Int) : Bool := decide (y % 400 = 0 ∨ (y % 4 = 0 ∧ y % 100 ≠ 0))
def wholeY (y : Int) : Int := if leapB y then 366 else 365
/-- How many days a month has. -/
def longM (y m : Int) : Int :=
  if m = 2 then (if leapB y then 29 else 28) else if m = 4 ∨ m = 6 ∨ m = 9 ∨ m = 11 then 30 else if m < 1 ∨ 12 < m then 0 else 31
/-- Days from 1970-01-01 to a year's first. -/
def dayY (y : Int) : Int := 365 * (y - 1970) + (y - 1) / 4 - (y - 1) / 100 + (y - 1) / 400 - 477
/-- Days ahead of a month, in its year. -/
def dayM (y m : Int) : Int :=
  if m ≤ 1 then 0 else if m = 2 then 31 else
    (if m = 3 then 59 else if m = 4 then 90 else if m = 5 then 120 else if m = 6 then 151 else if m = 7 then 181 else if m = 8 then 212 else if m = 9 then 243 else if m = 10 then 273 else if m = 11 then 304 else if m = 12 then 334 else 365) + (if leapB y then 1 else 0)
/-- The date of a day. -/
structure IsDate (n y m d : Int) : Prop where
  y1 : 1 ≤ y
  y2 : y ≤ 9999
  m1 : 1 ≤ m
  m2 : m ≤ 12
  d1 : 1 ≤ d
  d2 : d ≤ longM y m
  eq : n = dayY y + dayM y m + d - 1
theorem dayY_succ (y : Int) (h : 1 ≤ y) : dayY (y + 1) = dayY y + wholeY y := by
  unfold dayY wholeY leapB
  split <;> rename_i h1 <;> simp only [decide_eq_true_eq] at h1 <;> omega
theorem dayM_succ (y m : Int) (h1 : 1 ≤ m) (h2 : m ≤ 12) : dayM y (m + 1) = dayM y m + longM y m := by
  have hm : m = 1 ∨ m = 2 ∨ m = 3 ∨ m = 4 ∨ m = 5 ∨ m = 6 ∨ m = 7 ∨ m = 8 ∨ m = 9 ∨ m = 10 ∨ m = 11 ∨ m = 12 := by omega
  cases hl : leapB y <;> rcases hm with rfl | rfl | rfl | rfl | rfl | rfl | rfl | rfl | rfl | rfl | rfl | rfl <;> simp [dayM, longM, hl]
theorem dayM_one (y : Int) : dayM y 1 = 0 := by simp [dayM]
theorem dayM_last (y : Int) : dayM y 13 = wholeY y := by unfold wholeY dayM; cases leapB y <;> simp
theorem wholeY_range (y : Int) : 365 ≤ wholeY y ∧ wholeY y ≤ 366 := by unfold wholeY; split <;> omega
theorem longM_range (y m : Int) (h1 : 1 ≤ m) (h2 : m ≤ 12) : 28 ≤ longM y m ∧ longM y m ≤ 31 := by
  unfold longM
  repeat' split
  all_goals omega
theorem dayY_lt {a b : Int} (ha : 1 ≤ a) (h : a < b) : dayY a + 365 ≤ dayY b := by
  unfold dayY; omega
theorem dayY_le {a b : Int} (ha : 1 ≤ a) (h : a ≤ b) : dayY a ≤ dayY b := by
  unfold dayY; omega
theorem dayM_mono {y a b : Int} (ha : 1 ≤ a) (h : a < b) (hb : b ≤ 13) : dayM y a + longM y a ≤ dayM y b := by
  have h1 : a = 1 ∨ a = 2 ∨ a = 3 ∨ a = 4 ∨ a = 5 ∨ a = 6 ∨ a = 7 ∨ a = 8 ∨ a = 9 ∨ a = 10 ∨ a = 11 ∨ a = 12 := by omega
  have h2 : b = 2 ∨ b = 3 ∨ b = 4 ∨ b = 5 ∨ b = 6 ∨ b = 7 ∨ b = 8 ∨ b = 9 ∨ b = 10 ∨ b = 11 ∨ b = 12 ∨ b = 13 := by omega
  cases hl : leapB y <;> rcases h1 with rfl | rfl | rfl | rfl | rfl | rfl | rfl | rfl | rfl | rfl | rfl | rfl <;> rcases h2 with rfl | rfl | rfl | rfl | rfl | rfl | rfl | rfl | rfl | rfl | rfl | rfl <;> first | (exfalso; omega) | simp [dayM, longM, hl]
theorem IsDate.year {n y m d : Int} (h : IsDate n y m d) : dayY y ≤ n ∧ n < dayY (y + 1) := by
  have h1 := dayY_succ y h.y1
  have h2 : 0 ≤ dayM y m := by
    rcases (by have := h.m1; omega : m = 1 ∨ 1 < m) with rfl | hm
    · rw [dayM_one]; omega
    · have := dayM_mono (y := y) (a := 1) (by omega) hm (by have := h.m2; omega)
      rw [dayM_one] at this
      have := longM_range y 1 (by omega) (by omega)
      omega
  have h3 : dayM y m + longM y m ≤ wholeY y := by
    rw [← dayM_last y]
    exact dayM_mono h.m1 (by have := h.m2; omega) (by omega)
  have := h.d1; have := h.d2; have := h.eq
  omega
theorem IsDate.unique {n y m d y' m' d' : Int} (h : IsDate n y m d) (k : IsDate n y' m' d') : y = y' ∧ m = m' ∧ d = d' := by
  obtain ⟨a1, a2⟩ := h.year
  obtain ⟨b1, b2⟩ := k.year
  have hy : y = y' := by
    rcases (by omega : y = y' ∨ y < y' ∨ y' < y) with e | e | e
    · exact e
    · have := dayY_le (a := y + 1) (b := y') (by have := h.y1; omega) (by omega); omega
    · have := dayY_le (a := y' + 1) (b := y) (by have := k.y1; omega) (by omega); omega
  subst hy
  have e1 := h.eq; have e2 := k.eq
  have := h.d1; have := h.d2; have := k.d1; have := k.d2
  have hm : m = m' := by
    rcases (by omega : m = m' ∨ m < m' ∨ m' < m) with e | e | e
    · exact e
    · have := dayM_mono (y := y) h.m1 e (by have := k.m2; omega); omega
    · have := dayM_mono (y := y) k.m1 e (by have := h.m2; omega); omega
  subst hm
  exact ⟨rfl, rfl, by omega⟩
theorem march_day (y : Int) : dayY y + 59 + (if leapB y then 1 else 0) = 365 * y + y / 4 - y / 100 + y / 400 - 719468 := by
  unfold dayY leapB
  split <;> rename_i h1 <;> simp only [decide_eq_true_eq] at h1 <;> omega
theorem next_day (y : Int) : dayY (y + 1) = 365 * y + y / 4 - y / 100 + y / 400 - 719162 := by
  unfold dayY
  rw [Int.add_sub_cancel]
  omega
/-- The parts of a day's number, as the program takes them. -/
structure Parts (n q c f o r : Int) : Prop where
  c1 : 0 ≤ c
  c2 : c ≤ 3
  f1 : 0 ≤ f
  f2 : f ≤ 24
  o1 : 0 ≤ o
  o2 : o ≤ 3
  r1 : 0 ≤ r
  r2 : r ≤ 365
  q1 : 0 ≤ q
  q2 : q ≤ 25
  eq : n + 719468 = 146097 * q + 36524 * c + 1461 * f + 365 * o + r
  last : r = 365 → o = 3 ∧ (f = 24 → c = 3)
theorem parts_of {n q c f o r : Int} (hn : -719162 ≤ n) (hn' : n < 2932897) (hq : q = (n + 719468) / 146097) (hc : c = min ((n + 719468) % 146097 / 36524) 3) (hf : f = ((n + 719468) % 146097 - c * 36524) / 1461)
    (ho : o = min (((n + 719468) % 146097 - c * 36524 - f * 1461) / 365) 3) (hr : r = (n + 719468) % 146097 - c * 36524 - f * 1461 - o * 365) : Parts n q c f o r := by
  obtain ⟨N, hN⟩ : ∃ N, N = n + 719468 := ⟨_, rfl⟩
  rw [← hN] at hq hc hf ho hr
  obtain ⟨x, hx⟩ : ∃ x, x = N % 146097 := ⟨_, rfl⟩
  rw [← hx] at hc hf ho hr
  have e1 : N = 146097 * q + x := by omega
  have x1 : 0 ≤ x := by omega
  have x2 : x ≤ 146096 := by omega
  have q1 : 0 ≤ q := by omega
  have q2 : q ≤ 25 := by omega
  clear hq hx
  obtain ⟨y, hy⟩ : ∃ y, y = x - c * 36524 := ⟨_, rfl⟩
  rw [← hy] at hf ho hr
  have c1 : 0 ≤ c := by omega
  have c2 : c ≤ 3 := by omega
  have y1 : 0 ≤ y := by omega
  have y2 : y ≤ 36524 := by omega
  have y3 : c < 3 → y ≤ 36523 := by omega
  clear hc
  obtain ⟨u, hu⟩ : ∃ u, u = y - f * 1461 := ⟨_, rfl⟩
  rw [← hu] at ho hr
  have f1 : 0 ≤ f := by omega
  have f2 : f ≤ 24 := by omega
  have u1 : 0 ≤ u := by omega
  have u2 : u ≤ 1460 := by omega
  clear hf
  have o1 : 0 ≤ o := by omega
  have o2 : o ≤ 3 := by omega
  have r1 : 0 ≤ r := by omega
  have r2 : r ≤ 365 := by omega
  have r3 : o < 3 → r ≤ 364 := by omega
  exact ⟨c1, c2, f1, f2, o1, o2, r1, r2, q1, q2, by omega, fun h => ⟨by omega, fun h' => by omega⟩⟩
theorem Parts.sum {n q c f o r y : Int} (h : Parts n q c f o r) (hy : y = q * 400 + (c * 100 + f * 4 + o)) : 365 * y + y / 4 - y / 100 + y / 400 = n + 719468 - r := by
  obtain ⟨c1, c2, f1, f2, o1, o2, _, _, _, _, eq, _⟩ := h
  have e1 : y / 4 = 100 * q + 25 * c + f := by omega
  have e2 : y / 100 = 4 * q + c := by omega
  have e3 : y / 400 = q := by omega
  omega
theorem of_early {n q c f o r m y : Int} (hn : -719162 ≤ n) (hn' : n < 2932897) (h : Parts n q c f o r) (hm : m = (5 * r + 2) / 153) (hy : y = q * 400 + (c * 100 + f * 4 + o)) (h10 : m < 10) :
    IsDate n y ((m + 2) % 12 + 1) (r - (153 * m + 2) / 5 + 1) := by
  have hs := h.sum hy
  have hmd := march_day y
  have r1 := h.r1
  have r2 := h.r2
  have q1 := h.q1
  have c1 := h.c1
  have f1 := h.f1
  have o1 := h.o1
  have y2 : y ≤ 9999 := by
    have := h.eq; have := h.q2; have := h.c2; have := h.f2; have := h.o2
    omega
  have y1 : 1 ≤ y := by
    have := h.eq
    omega
  have hms : m = 0 ∨ m = 1 ∨ m = 2 ∨ m = 3 ∨ m = 4 ∨ m = 5 ∨ m = 6 ∨ m = 7 ∨ m = 8 ∨ m = 9 := by omega
  clear h hy q1 c1 f1 o1
  rcases hms with rfl | rfl | rfl | rfl | rfl | rfl | rfl | rfl | rfl | rfl
  all_goals
    refine ⟨y1, y2, by decide, by decide, by omega, ?_, ?_⟩
    · simp [longM]; omega
    · simp [dayM]; omega
theorem of_late {n q c f o r m y : Int} (hn : -719162 ≤ n) (hn' : n < 2932897) (h : Parts n q c f o r) (hm : m = (5 * r + 2) / 153) (hy : y = q * 400 + (c * 100 + f * 4 + o)) (h10 : 10 ≤ m) :
    IsDate n (y + 1) ((m + 2) % 12 + 1) (r - (153 * m + 2) / 5 + 1) := by
  have hs := h.sum hy
  have hnd := next_day y
  have r1 := h.r1
  have r2 := h.r2
  have y2 : y + 1 ≤ 9999 := by
    have := h.eq; have := h.q2; have := h.c2; have := h.f2; have := h.o2; have := h.c1; have := h.f1; have := h.o1
    omega
  have y1 : 1 ≤ y + 1 := by
    have := h.q1; have := h.c1; have := h.f1; have := h.o1
    omega
  have hl : r = 365 → leapB (y + 1) = true := by
    intro hr
    obtain ⟨l1, l2⟩ := h.last hr
    have := h.c1; have := h.c2; have := h.f1; have := h.f2
    unfold leapB
    rw [decide_eq_true_eq]
    omega
  have hms : m = 10 ∨ m = 11 := by omega
  clear h hy
  rcases hms with rfl | rfl
  · refine ⟨y1, y2, by decide, by decide, by omega, ?_, ?_⟩
    · simp [longM]; omega
    · simp [dayM]; omega
  · refine ⟨y1, y2, by decide, by decide, by omega, ?_, ?_⟩
    · simp only [longM]
      by_cases hr : r = 365
      · rw [hl hr]; simp; omega
      · simp; split <;> omega
    · simp [dayM]; omega
end Civ
end Go.Proofs.Ytkcimbjgjamloaa
