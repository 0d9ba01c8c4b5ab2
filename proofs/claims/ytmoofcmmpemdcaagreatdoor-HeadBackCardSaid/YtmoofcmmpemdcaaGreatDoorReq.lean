/- Layer 15: Request: what it answers for every text of at most 1000 octets. -/
import Derived.Test.YtmoofcmmpemdcaaGreatDoorReqR
import Derived.Test.YtmoofcmmpemdcaaGreatDoorShelf
set_option linter.unusedSimpArgs false
set_option linter.unusedVariables false
namespace Go.Proofs.YtmoofcmmpemdcaaGreatDoor
open Go.RowKit
/-- What Request holds: the result's block, the words, the head, the error. -/
structure ReqI (w0 wr : World) (B : Nat) (M T V : ByteArray) (k e : Int) : Prop where
  z : Blk wr B hdZ 24
  v : Blk wr (B + 1) #[.string M, .string T, .string V] 9
  h : Blk wr (B + 2) #[.string M, .string T, .int .i64 k, .int .i64 0, .string ⟨#[]⟩, .slice none 0 0] 24
  x : Blk wr (B + 3) #[.int .i64 e] 29
  below : Below B w0 wr
section
variable {w0 wr w' : World} {B : Nat} {M T V : ByteArray} {k e : Int}
theorem ReqI.call (h : ReqI w0 wr B M T V k e) (hb : Below wr.heap.size wr w') : ReqI w0 w' B M T V k e :=
  ⟨h.z.call hb, h.v.call hb, h.h.call hb, h.x.call hb, h.below.trans (hb.mono (by have := h.x.lt; omega))⟩
theorem ReqI.set (h : ReqI w0 wr B M T V k e) (y : Int) : ReqI w0 (wr.setCell ⟨B + 3, 0, none⟩ (.int .i64 y)) B M T V k y :=
  ⟨h.z.far (by simp) _, h.v.far (by simp) _, h.h.far (by simp) _, h.x.set 0 _, h.below.setCell (by simp) _⟩
theorem ReqI.minor (h : ReqI w0 wr B M T V k e) (y : Int) : ReqI w0 (wr.setCell ⟨B + 2, 2, none⟩ (.int .i64 y)) B M T V y e :=
  ⟨h.z.far (by simp) _, h.v.far (by simp) _, h.h.set 2 _, h.x.far (by simp) _, h.below.setCell (by simp) _⟩
theorem ReqI.m0 (h : ReqI w0 wr B M T V k e) : wr.cell? ⟨B + 2, 0, none⟩ = some (.string M) := h.h.cell 0
theorem ReqI.m1 (h : ReqI w0 wr B M T V k e) : wr.cell? ⟨B + 2, 1, none⟩ = some (.string T) := h.h.cell 1
theorem ReqI.v2 (h : ReqI w0 wr B M T V k e) : wr.cell? ⟨B + 1, 2, none⟩ = some (.string V) := h.v.cell 2
theorem ReqI.x0 (h : ReqI w0 wr B M T V k e) : wr.cell? ⟨B + 3, 0, none⟩ = some (.int .i64 e) := h.x.cell 0
end
theorem reqI0 {w W2 : World} {M T V : ByteArray} (hK : Blk W2 w.heap.size hdZ 24) (hV : Blk W2 (w.heap.size + 1) #[.string M, .string T, .string V] 9) (hL : Below w.heap.size w W2) (hz : W2.heap.size = w.heap.size + 2) :
    ReqI w ((W2.alloc (.cells #[.string M, .string T, .int .i64 0, .int .i64 0, .string ⟨#[]⟩, .slice none 0 0] 24)).alloc (.cells #[.int .i64 0] 29)).drew w.heap.size M T V 0 0 :=
  ⟨((hK.alloc _).alloc _).drew, ((hV.alloc _).alloc _).drew, ((Blk.new' (by omega)).alloc _).drew, (Blk.new' (by simp; omega)).drew, ((hL.alloc (by omega) _).alloc (by simp; omega) _).drew⟩
/-- The first error stays. -/
def askE (p : Bool) (x e : Int) : Int := if e = 0 ∧ p = false then x else e
set_option maxRecDepth 100000 in
theorem ask_any {w0 wr : World} {B : Nat} {M T V : ByteArray} {k e : Int} (h : Hid (ReqI w0 wr B M T V k e)) (p : Bool) (x : Int) :
    Calls Tryz.prog 242 #[.bool p, .int .i64 x, .pointer (some ⟨B + 3, 0, none⟩)] wr fun r w' => r = .returned (.tuple #[]) ∧ Hid (ReqI w0 w' B M T V k (askE p x e)) := by
  have c0 := h.out.x0
  have f0 : wr.frozen? ⟨B + 3, 0, none⟩ = false := h.out.x.froz 0
  by_cases he : e = 0
  · subst he
    cases p
    · have HA : Hid (askE false x 0 = x) := by show askE false x 0 = x; unfold askE; rw [if_pos ⟨rfl, rfl⟩]
      go_enter Tryz.func242, Tryz.ntmps242
      go_wp2_with fail
      go_end0
      rw [HA.out]
      exact ⟨rfl, h.out.set x⟩
    · have HA : Hid (askE true x 0 = 0) := by show askE true x 0 = 0; unfold askE; rw [if_neg (by simp)]
      go_enter Tryz.func242, Tryz.ntmps242
      go_wp2_with fail
      go_end0
      rw [HA.out]
      exact ⟨rfl, h⟩
  · have HA : Hid (askE p x e = e) := by show askE p x e = e; unfold askE; rw [if_neg (fun h => he h.1)]
    have hb : (e == 0) = false := by rw [beq_eq_false_iff_ne]; exact he
    go_enter Tryz.func242, Tryz.ntmps242
    go_wp2_with fail
    go_end0
    rw [HA.out]
    exact ⟨rfl, h⟩
theorem split_three {s : ByteArray} {a b : Nat} (h : posL 32 0 s.data.toList = [a, b]) (hs : s.size ≤ 100000) {mx : Int} (w : World) (hm : w.cell? ⟨0, 0, none⟩ = some (.int .i64 mx)) :
    Calls Tryz.prog 241 #[.string s, .string ⟨#[32]⟩] w fun e w' => e = .returned (.slice (some ⟨w.heap.size, 0, none⟩) 3 3) ∧ w' = w.alloc (.cells #[.string (s.extract 0 a), .string (s.extract (a + 1) b), .string (s.extract (b + 1) s.size)] 9) := by
  have hc : Lib.countB s spS = 2 := by rw [count_pos, h]; rfl
  have h1 := Tryz.strings_Split s spS mx w (by omega) hm (by decide)
  rw [hc, (split_two h).2.2] at h1
  exact h1
theorem split_other {s : ByteArray} (h : (posL 32 0 s.data.toList).length ≠ 2) (hs : s.size ≤ 100000) {mx : Int} (w : World) (hm : w.cell? ⟨0, 0, none⟩ = some (.int .i64 mx)) :
    Calls Tryz.prog 241 #[.string s, .string ⟨#[32]⟩] w fun e w' => ∃ n : Nat, n ≠ 3 ∧ n ≤ 100001 ∧ ∃ cs, e = .returned (.slice (some ⟨w.heap.size, 0, none⟩) n n) ∧ w' = w.alloc (.cells cs 9) := by
  have h1 := Tryz.strings_Split s spS mx w (by omega) hm (by decide)
  refine h1.mono ?_
  rintro e w' ⟨h2, h3⟩
  refine ⟨Lib.countB s spS + 1, ?_, ?_, _, h2, h3⟩
  · rw [count_pos]; omega
  · have := Lib.countB_le spS (by decide) s.size s (Nat.le_refl _); omega
theorem reqE {s : ByteArray} {a b : Nat} (h : posL 32 0 s.data.toList = [a, b]) {k f : Int} (hv : vminor (s.extract (b + 1) s.size) = (k, f)) :
    reqRes s = if askE (f == 0) f (askE (visL (s.extract (a + 1) b).data.toList) 11 (askE (tokL (s.extract 0 a).data.toList) 6 0)) = 0 then ((s.extract 0 a, s.extract (a + 1) b, k), 0)
      else ((⟨#[]⟩, ⟨#[]⟩, 0), askE (f == 0) f (askE (visL (s.extract (a + 1) b).data.toList) 11 (askE (tokL (s.extract 0 a).data.toList) 6 0))) := by
  rw [reqRes_two h, hv]
  cases tokL (s.extract 0 a).data.toList <;> cases visL (s.extract (a + 1) b).data.toList <;> by_cases hf : f = 0 <;> simp [askE, hf]
set_option maxRecDepth 100000 in
set_option maxHeartbeats 4000000 in
theorem request_other (s : ByteArray) (hs : s.size ≤ 100000) (h : (posL 32 0 s.data.toList).length ≠ 2) {mx : Int} (w : World) (hm : w.cell? ⟨0, 0, none⟩ = some (.int .i64 mx)) :
    Calls Tryz.prog 211 #[.string s] w fun o w' => o = .returned (.tuple #[.agg #[.string ⟨#[]⟩, .string ⟨#[]⟩, .int .i64 0, .int .i64 0, .string ⟨#[]⟩, .slice none 0 0], .int .i64 3]) ∧ Below w.heap.size w w' := by
  have hm1 : (w.alloc (.cells hdZ 24)).cell? ⟨0, 0, none⟩ = some (.int .i64 mx) := by
    rw [World.cell?_alloc_old _ _ _ (Nat.ne_of_lt (World.block_lt_of_cell? _ _ hm))]; exact hm
  have HC := Lib.hid (split_other h hs (w.alloc (.cells hdZ 24)) hm1)
  clear h hs hm hm1
  go_enter Tryz.func211, Tryz.ntmps211
  go_wp2_with (go_at_call 241; refine HC.out.mono ?_; rintro e' W2 ⟨n, hn3, hn1, cs, rfl, hw⟩; have n3 : ((n : Int) == 3) = false := (by rw [beq_eq_false_iff_ne]; omega); have n4 : ((n : Int) != 3) = true := (by rw [bne_iff_ne]; omega); have HK : Hid (Blk W2 w.heap.size hdZ 24) := (by show Blk _ _ _ _; rw [hw]; exact (Blk.new _ _ _).alloc _); have HL : Hid (Below w.heap.size w W2) := (by show Below _ _ _; rw [hw]; exact ((Below.refl _ _).alloc (Nat.le_refl _) _).alloc (by simp) _); clear hw hn3; have c0 : W2.cell? ⟨w.heap.size, 0, none⟩ = some (.string ⟨#[]⟩) := HK.out.cell 0; have f0 : W2.frozen? ⟨w.heap.size, 0, none⟩ = false := HK.out.froz 0; have c1 : W2.cell? ⟨w.heap.size, 1, none⟩ = some (.string ⟨#[]⟩) := HK.out.cell 1; have f1 : W2.frozen? ⟨w.heap.size, 1, none⟩ = false := HK.out.froz 1; have c2 : W2.cell? ⟨w.heap.size, 2, none⟩ = some (.int .i64 0) := HK.out.cell 2; have f2 : W2.frozen? ⟨w.heap.size, 2, none⟩ = false := HK.out.froz 2; have c3 : W2.cell? ⟨w.heap.size, 3, none⟩ = some (.int .i64 0) := HK.out.cell 3; have f3 : W2.frozen? ⟨w.heap.size, 3, none⟩ = false := HK.out.froz 3; have c4 : W2.cell? ⟨w.heap.size, 4, none⟩ = some (.string ⟨#[]⟩) := HK.out.cell 4; have f4 : W2.frozen? ⟨w.heap.size, 4, none⟩ = false := HK.out.froz 4; have c5 : W2.cell? ⟨w.heap.size, 5, none⟩ = some (.slice none 0 0) := HK.out.cell 5; have f5 : W2.frozen? ⟨w.heap.size, 5, none⟩ = false := HK.out.froz 5)
  have q := hdW_blk (w := W2) HK.out (⟨#[]⟩) (⟨#[]⟩) (0) 0 ⟨#[]⟩
  have u := hdW_below (w := W2) HL.out (Nat.le_refl _) (⟨#[]⟩) (⟨#[]⟩) (0) 0 ⟨#[]⟩
  obtain ⟨Wf, hWf⟩ : ∃ Wf, Wf = hdW (W2) w.heap.size (⟨#[]⟩) (⟨#[]⟩) (0) 0 ⟨#[]⟩ := ⟨_, rfl⟩
  rw [← hWf] at q u
  have hWf' : ((((((W2).setCell ⟨w.heap.size, 0, none⟩ (.string (⟨#[]⟩))).setCell ⟨w.heap.size, 1, none⟩ (.string (⟨#[]⟩))).setCell ⟨w.heap.size, 2, none⟩ (.int .i64 (0))).setCell ⟨w.heap.size, 3, none⟩ (.int .i64 0)).setCell ⟨w.heap.size, 4, none⟩ (.string ⟨#[]⟩)).setCell ⟨w.heap.size, 5, none⟩ (.slice none 0 0) = Wf := hWf.symm
  rw [hWf']
  have q0 := q.cell 0
  have q1 := q.cell 1
  have q2 := q.cell 2
  have q3 := q.cell 3
  have q4 := q.cell 4
  have q5 := q.cell 5
  simp only [List.getElem?_toArray, List.getElem?_cons_zero, List.getElem?_cons_succ] at q0 q1 q2 q3 q4 q5
  exact bodyPost_ret (v := .tuple #[.agg #[.string (⟨#[]⟩), .string (⟨#[]⟩), .int .i64 (0), .int .i64 0, .string ⟨#[]⟩, .slice none 0 0], .int .i64 (3)]) (by simp [results, Tryz.results211, go_sem, q0, q1, q2, q3, q4, q5]) rfl ⟨rfl, u⟩
set_option maxRecDepth 100000 in
set_option maxHeartbeats 8000000 in
theorem request_bad (s : ByteArray) (hs : s.size ≤ 100000) {a b : Nat} (h : posL 32 0 s.data.toList = [a, b]) {M T V : ByteArray} (hM : M = s.extract 0 a) (hT : T = s.extract (a + 1) b) (hV : V = s.extract (b + 1) s.size) {k f e1 e2 e3 : Int} {p1 p2 : Bool} (hk : vminor V = (k, f)) (hp1 : tokL M.data.toList = p1) (hp2 : visL T.data.toList = p2)
    (he1 : askE p1 6 0 = e1) (he2 : askE p2 11 e1 = e2) (he3 : askE (f == 0) f e2 = e3) (hz : e3 ≠ 0) {mx : Int} (w : World) (hm : w.cell? ⟨0, 0, none⟩ = some (.int .i64 mx)) :
    Calls Tryz.prog 211 #[.string s] w fun o w' => o = .returned (.tuple #[.agg #[.string ⟨#[]⟩, .string ⟨#[]⟩, .int .i64 0, .int .i64 0, .string ⟨#[]⟩, .slice none 0 0], .int .i64 e3]) ∧ Below w.heap.size w w' := by
  have hm1 : (w.alloc (.cells hdZ 24)).cell? ⟨0, 0, none⟩ = some (.int .i64 mx) := by
    rw [World.cell?_alloc_old _ _ _ (Nat.ne_of_lt (World.block_lt_of_cell? _ _ hm))]; exact hm
  have HC := split_three h hs (w.alloc (.cells hdZ 24)) hm1
  have hMs : M.size ≤ 9223372036854775807 := by rw [hM]; simp; omega
  have hTs : T.size ≤ 9223372036854775807 := by rw [hT]; simp; omega
  have hVs : V.size ≤ 9223372036854775807 := by rw [hV]; simp; omega
  rw [← hM, ← hT, ← hV] at HC
  have HC := Lib.hid HC
  have HT1 : Hid (∀ W : World, Calls Tryz.prog 114 #[.string M] W fun e w' => e = .returned (.bool p1) ∧ Below W.heap.size W w') := fun W => by subst hp1; exact token_any M hMs W
  have HT2 : Hid (∀ W : World, Calls Tryz.prog 117 #[.string T] W fun e w' => e = .returned (.bool p2) ∧ Below W.heap.size W w') := fun W => by subst hp2; exact visible_any T hTs W
  have HT3 : Hid (∀ W : World, Calls Tryz.prog 243 #[.string V] W fun r w' => r = .returned (.tuple #[.int .i64 k, .int .i64 f]) ∧ W = w') := fun W => minor_any V hVs hk W
  have HE1 := Lib.hid he1
  have HE2 := Lib.hid he2
  have HE3 := Lib.hid he3
  have n0 : (e3 == 0) = false := by rw [beq_eq_false_iff_ne]; exact hz
  have n1 : (e3 != 0) = true := by rw [bne_iff_ne]; exact hz
  clear h hs hm hm1 hM hT hV hMs hTs hVs hk hp1 hp2 he1 he2 he3 hz
  go_enter Tryz.func211, Tryz.ntmps211
  go_wp2_with (go_at_call 241; refine HC.out.mono ?_; rintro e' W2 ⟨rfl, hw⟩; have HK : Hid (Blk W2 w.heap.size hdZ 24) := (by show Blk _ _ _ _; rw [hw]; exact (Blk.new _ _ _).alloc _); have HV : Hid (Blk W2 (w.heap.size + 1) #[.string M, .string T, .string V] 9) := (by show Blk _ _ _ _; rw [hw]; exact Blk.new' (by simp)); have HL : Hid (Below w.heap.size w W2) := (by show Below _ _ _; rw [hw]; exact ((Below.refl _ _).alloc (Nat.le_refl _) _).alloc (by simp) _); have hwz : W2.heap.size = w.heap.size + 2 := (by rw [hw]; simp); clear hw; have v0 : W2.cell? ⟨w.heap.size + 1, 0, none⟩ = some (.string M) := HV.out.cell 0; have v1 : W2.cell? ⟨w.heap.size + 1, 1, none⟩ = some (.string T) := HV.out.cell 1)
  go_region
  go_wp2_with (first
    | (go_at_call 114; refine (HT1.out _).mono ?_; rintro e' w3 ⟨rfl, hb⟩; have HI := Lib.hid ((reqI0 HK.out HV.out HL.out hwz).call hb); clear hb)
    | (go_at_call 117; refine (HT2.out _).mono ?_; rintro e' w3 ⟨rfl, hb⟩; have HI := Lib.hid (HI.out.call hb); clear hb)
    | (go_at_call 243; refine (HT3.out _).mono ?_; rintro e' w3 ⟨rfl, rfl⟩)
    | (go_at_call 242; refine (ask_any (by assumption) _ _).mono ?_; rintro e' w4 ⟨rfl, hI⟩; (try rw [HE1.out] at hI); (try rw [HE2.out] at hI); (try rw [HE3.out] at hI); have HI := Lib.hid hI.out; clear hI; have y1 := HI.out.m1; have y2 := HI.out.v2; have y3 := HI.out.x0; have y4 : w4.cell? ⟨w.heap.size + 2, 2, none⟩ = some (.int .i64 0) := HI.out.h.cell 2; have y5 : w4.frozen? ⟨w.heap.size + 2, 2, none⟩ = false := HI.out.h.froz 2))
  obtain ⟨W9, hW9⟩ : ∃ W9, W9 = w4.setCell ⟨w.heap.size + 2, 2, none⟩ (.int .i64 k) := ⟨_, rfl⟩
  have I9 := HI.out.minor k
  rw [← hW9] at I9
  rw [← hW9]
  have J9 := Lib.hid I9
  clear I9 hW9
  have c0 : W9.cell? ⟨w.heap.size, 0, none⟩ = some (.string ⟨#[]⟩) := J9.out.z.cell 0
  have f0 : W9.frozen? ⟨w.heap.size, 0, none⟩ = false := J9.out.z.froz 0
  have c1 : W9.cell? ⟨w.heap.size, 1, none⟩ = some (.string ⟨#[]⟩) := J9.out.z.cell 1
  have f1 : W9.frozen? ⟨w.heap.size, 1, none⟩ = false := J9.out.z.froz 1
  have c2 : W9.cell? ⟨w.heap.size, 2, none⟩ = some (.int .i64 0) := J9.out.z.cell 2
  have f2 : W9.frozen? ⟨w.heap.size, 2, none⟩ = false := J9.out.z.froz 2
  have c3 : W9.cell? ⟨w.heap.size, 3, none⟩ = some (.int .i64 0) := J9.out.z.cell 3
  have f3 : W9.frozen? ⟨w.heap.size, 3, none⟩ = false := J9.out.z.froz 3
  have c4 : W9.cell? ⟨w.heap.size, 4, none⟩ = some (.string ⟨#[]⟩) := J9.out.z.cell 4
  have f4 : W9.frozen? ⟨w.heap.size, 4, none⟩ = false := J9.out.z.froz 4
  have c5 : W9.cell? ⟨w.heap.size, 5, none⟩ = some (.slice none 0 0) := J9.out.z.cell 5
  have f5 : W9.frozen? ⟨w.heap.size, 5, none⟩ = false := J9.out.z.froz 5
  have x0 := J9.out.x0
  have h0 : W9.cell? ⟨w.heap.size + 2, 0, none⟩ = some (.string M) := J9.out.h.cell 0
  have h1 : W9.cell? ⟨w.heap.size + 2, 1, none⟩ = some (.string T) := J9.out.h.cell 1
  have h2 : W9.cell? ⟨w.heap.size + 2, 2, none⟩ = some (.int .i64 k) := J9.out.h.cell 2
  have h3 : W9.cell? ⟨w.heap.size + 2, 3, none⟩ = some (.int .i64 0) := J9.out.h.cell 3
  have h4 : W9.cell? ⟨w.heap.size + 2, 4, none⟩ = some (.string ⟨#[]⟩) := J9.out.h.cell 4
  have h5 : W9.cell? ⟨w.heap.size + 2, 5, none⟩ = some (.slice none 0 0) := J9.out.h.cell 5
  go_region
  clear c0 f0 c1 f1 c2 f2 c3 f3 c4 f4 c5 f5
  have c := J9.out
  have q := hdW_blk (w := W9) c.z (⟨#[]⟩) (⟨#[]⟩) (0) 0 ⟨#[]⟩
  have u := hdW_below (w := W9) c.below (Nat.le_refl _) (⟨#[]⟩) (⟨#[]⟩) (0) 0 ⟨#[]⟩
  obtain ⟨Wf, hWf⟩ : ∃ Wf, Wf = hdW (W9) w.heap.size (⟨#[]⟩) (⟨#[]⟩) (0) 0 ⟨#[]⟩ := ⟨_, rfl⟩
  rw [← hWf] at q u
  have hWf' : ((((((W9).setCell ⟨w.heap.size, 0, none⟩ (.string (⟨#[]⟩))).setCell ⟨w.heap.size, 1, none⟩ (.string (⟨#[]⟩))).setCell ⟨w.heap.size, 2, none⟩ (.int .i64 (0))).setCell ⟨w.heap.size, 3, none⟩ (.int .i64 0)).setCell ⟨w.heap.size, 4, none⟩ (.string ⟨#[]⟩)).setCell ⟨w.heap.size, 5, none⟩ (.slice none 0 0) = Wf := hWf.symm
  rw [hWf']
  go_wp2_with fail
  have q0 := q.cell 0
  have q1 := q.cell 1
  have q2 := q.cell 2
  have q3 := q.cell 3
  have q4 := q.cell 4
  have q5 := q.cell 5
  simp only [List.getElem?_toArray, List.getElem?_cons_zero, List.getElem?_cons_succ] at q0 q1 q2 q3 q4 q5
  exact bodyPost_ret (v := .tuple #[.agg #[.string (⟨#[]⟩), .string (⟨#[]⟩), .int .i64 (0), .int .i64 0, .string ⟨#[]⟩, .slice none 0 0], .int .i64 (e3)]) (by simp [results, Tryz.results211, go_sem, q0, q1, q2, q3, q4, q5]) rfl ⟨rfl, u.drew⟩
set_option maxRecDepth 100000 in
set_option maxHeartbeats 8000000 in
theorem request_good (s : ByteArray) (hs : s.size ≤ 100000) {a b : Nat} (h : posL 32 0 s.data.toList = [a, b]) {M T V : ByteArray} (hM : M = s.extract 0 a) (hT : T = s.extract (a + 1) b) (hV : V = s.extract (b + 1) s.size) {k f e1 e2 e3 : Int} {p1 p2 : Bool} (hk : vminor V = (k, f)) (hp1 : tokL M.data.toList = p1) (hp2 : visL T.data.toList = p2)
    (he1 : askE p1 6 0 = e1) (he2 : askE p2 11 e1 = e2) (he3 : askE (f == 0) f e2 = e3) (hz : e3 = 0) {mx : Int} (w : World) (hm : w.cell? ⟨0, 0, none⟩ = some (.int .i64 mx)) :
    Calls Tryz.prog 211 #[.string s] w fun o w' => o = .returned (.tuple #[.agg #[.string M, .string T, .int .i64 k, .int .i64 0, .string ⟨#[]⟩, .slice none 0 0], .int .i64 e3]) ∧ Below w.heap.size w w' := by
  have hm1 : (w.alloc (.cells hdZ 24)).cell? ⟨0, 0, none⟩ = some (.int .i64 mx) := by
    rw [World.cell?_alloc_old _ _ _ (Nat.ne_of_lt (World.block_lt_of_cell? _ _ hm))]; exact hm
  have HC := split_three h hs (w.alloc (.cells hdZ 24)) hm1
  have hMs : M.size ≤ 9223372036854775807 := by rw [hM]; simp; omega
  have hTs : T.size ≤ 9223372036854775807 := by rw [hT]; simp; omega
  have hVs : V.size ≤ 9223372036854775807 := by rw [hV]; simp; omega
  rw [← hM, ← hT, ← hV] at HC
  have HC := Lib.hid HC
  have HT1 : Hid (∀ W : World, Calls Tryz.prog 114 #[.string M] W fun e w' => e = .returned (.bool p1) ∧ Below W.heap.size W w') := fun W => by subst hp1; exact token_any M hMs W
  have HT2 : Hid (∀ W : World, Calls Tryz.prog 117 #[.string T] W fun e w' => e = .returned (.bool p2) ∧ Below W.heap.size W w') := fun W => by subst hp2; exact visible_any T hTs W
  have HT3 : Hid (∀ W : World, Calls Tryz.prog 243 #[.string V] W fun r w' => r = .returned (.tuple #[.int .i64 k, .int .i64 f]) ∧ W = w') := fun W => minor_any V hVs hk W
  have HE1 := Lib.hid he1
  have HE2 := Lib.hid he2
  have HE3 := Lib.hid he3
  subst hz
  skip
  clear h hs hm hm1 hM hT hV hMs hTs hVs hk hp1 hp2 he1 he2 he3
  go_enter Tryz.func211, Tryz.ntmps211
  go_wp2_with (go_at_call 241; refine HC.out.mono ?_; rintro e' W2 ⟨rfl, hw⟩; have HK : Hid (Blk W2 w.heap.size hdZ 24) := (by show Blk _ _ _ _; rw [hw]; exact (Blk.new _ _ _).alloc _); have HV : Hid (Blk W2 (w.heap.size + 1) #[.string M, .string T, .string V] 9) := (by show Blk _ _ _ _; rw [hw]; exact Blk.new' (by simp)); have HL : Hid (Below w.heap.size w W2) := (by show Below _ _ _; rw [hw]; exact ((Below.refl _ _).alloc (Nat.le_refl _) _).alloc (by simp) _); have hwz : W2.heap.size = w.heap.size + 2 := (by rw [hw]; simp); clear hw; have v0 : W2.cell? ⟨w.heap.size + 1, 0, none⟩ = some (.string M) := HV.out.cell 0; have v1 : W2.cell? ⟨w.heap.size + 1, 1, none⟩ = some (.string T) := HV.out.cell 1)
  go_region
  go_wp2_with (first
    | (go_at_call 114; refine (HT1.out _).mono ?_; rintro e' w3 ⟨rfl, hb⟩; have HI := Lib.hid ((reqI0 HK.out HV.out HL.out hwz).call hb); clear hb)
    | (go_at_call 117; refine (HT2.out _).mono ?_; rintro e' w3 ⟨rfl, hb⟩; have HI := Lib.hid (HI.out.call hb); clear hb)
    | (go_at_call 243; refine (HT3.out _).mono ?_; rintro e' w3 ⟨rfl, rfl⟩)
    | (go_at_call 242; refine (ask_any (by assumption) _ _).mono ?_; rintro e' w4 ⟨rfl, hI⟩; (try rw [HE1.out] at hI); (try rw [HE2.out] at hI); (try rw [HE3.out] at hI); have HI := Lib.hid hI.out; clear hI; have y1 := HI.out.m1; have y2 := HI.out.v2; have y3 := HI.out.x0; have y4 : w4.cell? ⟨w.heap.size + 2, 2, none⟩ = some (.int .i64 0) := HI.out.h.cell 2; have y5 : w4.frozen? ⟨w.heap.size + 2, 2, none⟩ = false := HI.out.h.froz 2))
  obtain ⟨W9, hW9⟩ : ∃ W9, W9 = w4.setCell ⟨w.heap.size + 2, 2, none⟩ (.int .i64 k) := ⟨_, rfl⟩
  have I9 := HI.out.minor k
  rw [← hW9] at I9
  rw [← hW9]
  have J9 := Lib.hid I9
  clear I9 hW9
  have c0 : W9.cell? ⟨w.heap.size, 0, none⟩ = some (.string ⟨#[]⟩) := J9.out.z.cell 0
  have f0 : W9.frozen? ⟨w.heap.size, 0, none⟩ = false := J9.out.z.froz 0
  have c1 : W9.cell? ⟨w.heap.size, 1, none⟩ = some (.string ⟨#[]⟩) := J9.out.z.cell 1
  have f1 : W9.frozen? ⟨w.heap.size, 1, none⟩ = false := J9.out.z.froz 1
  have c2 : W9.cell? ⟨w.heap.size, 2, none⟩ = some (.int .i64 0) := J9.out.z.cell 2
  have f2 : W9.frozen? ⟨w.heap.size, 2, none⟩ = false := J9.out.z.froz 2
  have c3 : W9.cell? ⟨w.heap.size, 3, none⟩ = some (.int .i64 0) := J9.out.z.cell 3
  have f3 : W9.frozen? ⟨w.heap.size, 3, none⟩ = false := J9.out.z.froz 3
  have c4 : W9.cell? ⟨w.heap.size, 4, none⟩ = some (.string ⟨#[]⟩) := J9.out.z.cell 4
  have f4 : W9.frozen? ⟨w.heap.size, 4, none⟩ = false := J9.out.z.froz 4
  have c5 : W9.cell? ⟨w.heap.size, 5, none⟩ = some (.slice none 0 0) := J9.out.z.cell 5
  have f5 : W9.frozen? ⟨w.heap.size, 5, none⟩ = false := J9.out.z.froz 5
  have x0 := J9.out.x0
  have h0 : W9.cell? ⟨w.heap.size + 2, 0, none⟩ = some (.string M) := J9.out.h.cell 0
  have h1 : W9.cell? ⟨w.heap.size + 2, 1, none⟩ = some (.string T) := J9.out.h.cell 1
  have h2 : W9.cell? ⟨w.heap.size + 2, 2, none⟩ = some (.int .i64 k) := J9.out.h.cell 2
  have h3 : W9.cell? ⟨w.heap.size + 2, 3, none⟩ = some (.int .i64 0) := J9.out.h.cell 3
  have h4 : W9.cell? ⟨w.heap.size + 2, 4, none⟩ = some (.string ⟨#[]⟩) := J9.out.h.cell 4
  have h5 : W9.cell? ⟨w.heap.size + 2, 5, none⟩ = some (.slice none 0 0) := J9.out.h.cell 5
  go_region
  clear c0 f0 c1 f1 c2 f2 c3 f3 c4 f4 c5 f5
  have c := J9.out
  have q := hdW_blk (w := W9) c.z (M) (T) (k) 0 ⟨#[]⟩
  have u := hdW_below (w := W9) c.below (Nat.le_refl _) (M) (T) (k) 0 ⟨#[]⟩
  obtain ⟨Wf, hWf⟩ : ∃ Wf, Wf = hdW (W9) w.heap.size (M) (T) (k) 0 ⟨#[]⟩ := ⟨_, rfl⟩
  rw [← hWf] at q u
  have hWf' : ((((((W9).setCell ⟨w.heap.size, 0, none⟩ (.string (M))).setCell ⟨w.heap.size, 1, none⟩ (.string (T))).setCell ⟨w.heap.size, 2, none⟩ (.int .i64 (k))).setCell ⟨w.heap.size, 3, none⟩ (.int .i64 0)).setCell ⟨w.heap.size, 4, none⟩ (.string ⟨#[]⟩)).setCell ⟨w.heap.size, 5, none⟩ (.slice none 0 0) = Wf := hWf.symm
  rw [hWf']
  go_wp2_with fail
  have q0 := q.cell 0
  have q1 := q.cell 1
  have q2 := q.cell 2
  have q3 := q.cell 3
  have q4 := q.cell 4
  have q5 := q.cell 5
  simp only [List.getElem?_toArray, List.getElem?_cons_zero, List.getElem?_cons_succ] at q0 q1 q2 q3 q4 q5
  exact bodyPost_ret (v := .tuple #[.agg #[.string (M), .string (T), .int .i64 (k), .int .i64 0, .string ⟨#[]⟩, .slice none 0 0], .int .i64 (0)]) (by simp [results, Tryz.results211, go_sem, q0, q1, q2, q3, q4, q5]) rfl ⟨rfl, u.drew⟩
end Go.Proofs.YtmoofcmmpemdcaaGreatDoor
