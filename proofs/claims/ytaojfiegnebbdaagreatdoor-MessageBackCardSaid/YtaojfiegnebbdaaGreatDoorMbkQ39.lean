/- Texts packed for one claim, 39 of 52: EncBody. -/
import Derived.Test.YtaojfiegnebbdaaGreatDoorMbkQ38
import Derived.Test.YtaojfiegnebbdaaGreatDoorMbkQ32
set_option maxRecDepth 100000
set_option maxHeartbeats 16000000
set_option linter.unusedSimpArgs false
set_option linter.unusedVariables false
-- EncBody
namespace Go.Proofs.YtaojfiegnebbdaaGreatDoor
open Go.RowKit
def fitsB (k n : Int) (s : ByteArray) : Bool := decide (k = 0 ∧ s.size = 0) || (decide (k = 1 ∧ n = s.size) || decide (k = 3))
def badF (l : List Fld) : Bool := l.any fun f => !(fieldR f.1 f.2)
def chunksL (l : List ByteArray) : ByteArray := l.foldl (fun o p => o ++ (beginB p.size ++ p ++ crlf)) ⟨#[]⟩
theorem chunksL_snoc (l : List ByteArray) (p : ByteArray) : chunksL (l ++ [p]) = chunksL l ++ (beginB p.size ++ p ++ crlf) := by unfold chunksL; rw [List.foldl_append]; rfl
def bodyRes (k n : Int) (z : List Int) (s : ByteArray) (l : List Fld) : ByteArray × Int :=
 if n < 0 then (⟨#[]⟩, 14)
 else if k ≠ 2 then (if fitsB k n s = true ∧ z.length = 0 ∧ l.length = 0 then (s, 0) else (⟨#[]⟩, 14))
 else if cutF z s.size ≠ some 0 then (⟨#[]⟩, 14)
 else if badF l = true then (⟨#[]⟩, 7)
 else (chunksL (cutP s z z.length) ++ lastB l, 0)
theorem bad1_any (n v : ByteArray) (hn : n.size ≤ 1000) (hv : v.size ≤ 1000) (w : World) : Calls Tryz.prog 72 #[.agg #[.string n, .string v]] w fun e w' => e = .returned (.bool (!(fieldR n v))) ∧ Below w.heap.size w w' := by
 have HC := lH (fun W => fright_any n v (by omega) (by omega) W)
 obtain ⟨p, hp⟩ : ∃ p, p = fieldR n v := ⟨_, rfl⟩
 rw [← hp] at HC
 rw [← hp]
 clear hp
 go_enter Tryz.func72, Tryz.ntmps72
 go_wp2_with fail
 refine (HC.out _).mono ?_
 rintro e' w1 ⟨rfl, hb⟩
 have HB := lH hb
 clear hb
 cases p
 ·go_wp2_with fail
  go_ret
  exact ⟨rfl, ((Below.refl _ _).alloc (nR _) _).trans (HB.out.mono (by simp))⟩
 ·go_wp2_with fail
  go_ret
  exact ⟨rfl, ((Below.refl _ _).alloc (nR _) _).trans (HB.out.mono (by simp))⟩
theorem index_field {w : World} {A : Option Addr} {len cap : Nat} {l : List Fld} (h : Fds w A len l) (hl : len ≤ 1000) (hs : ∀ g ∈ l, g.1.size ≤ 1000 ∧ g.2.size ≤ 1000) :
 Calls Tryz.prog 110 #[.slice A len cap, .func (.func 72) #[] #[]] w fun e w' => (∃ r : Int, e = .returned (.int .i64 r) ∧ decide (0 ≤ r) = badF l) ∧ Below w.heap.size w w' := by
 have hlen := h.1
 have H := lH h
 have HS := lH hs
 clear h hs
 go_enter Tryz.func110, Tryz.ntmps110
 go_wp2_with fail
 go_loopw [8] (fun i wr => ∃ k : Nat, k ≤ len ∧ i = .int .i64 k ∧ badF (l.take k) = false ∧ Below w.heap.size w wr) (fun i _ => len - (intOf i).toNat)
 case atStart => exact ⟨0, by omega, rfl, rfl, Below.refl _ _⟩
 case round =>
  obtain ⟨k, hk, rfl, hbad, hbel⟩ := hrel
  have HL := lH hbel
  have HD := lH hbad
  clear hbel hbad
  by_cases hlt : k < len
  ·obtain ⟨b, off, rfl, hbw, hc⟩ := (H.out.below HL.out).2 (by omega)
   obtain ⟨g, hg⟩ : ∃ g, l[k]? = some g := ⟨l[k]'(by omega), List.getElem?_eq_getElem (by omega)⟩
   obtain ⟨c0, c1⟩ := hc k g hg
   have hge : l[k]'(by omega) = g := by
    rw [List.getElem?_eq_getElem (by omega)] at hg
    exact Option.some.inj hg
   have hgs := HS.out g (List.mem_of_getElem? hg)
   have HM := lH (List.mem_of_getElem? hg)
   obtain ⟨n, v⟩ := g
   simp only at c0 c1 hgs
   obtain ⟨p, hp⟩ : ∃ p, p = !(fieldR n v) := ⟨_, rfl⟩
   have HX : Hid (∀ W : World, Calls Tryz.prog 72 #[.agg #[.string n, .string v]] W fun e w' => e = .returned (.bool p) ∧ Below W.heap.size W w') := fun W => by rw [hp]; exact bad1_any n v hgs.1 hgs.2 W
   have hki : (k : Int) < len := by omega
   have hli : (len : Int) ≤ 1000 := by omega
   have HP := lH hp
   have HG : Hid (l.take (k + 1) = l.take k ++ [(n, v)]) := by show _ = _; rw [List.take_succ_eq_append_getElem (by omega), hge]
   clear hc hg hge hgs hbw hp
   cases p
   ·have HN : Hid (badF (l.take (k + 1)) = false) := by
     show _ = _
     rw [HG.out]
     unfold badF
     have := HD.out
     unfold badF at this
     rw [List.any_append, this]
     simp only [List.any_cons, List.any_nil, Bool.or_false, Bool.false_or]
     exact HP.out.symm
    go_wp2_with fail
    refine (HX.out _).mono ?_
    rintro e' w2 ⟨rfl, hb⟩
    have HB2 := lH hb
    clear hb c0 c1
    go_wp2_with fail
    go_roundw
    case rel => exact ⟨k + 1, by omega, by go_num, HN.out, HL.out.trans (HB2.out.mono HL.out.size)⟩
    case measure => simp [intOf]; omega
   ·have HN : Hid (decide (0 ≤ (k : Int)) = badF l) := by
     show _ = _
     rw [dT (by omega)]
     symm
     unfold badF
     rw [List.any_eq_true]
     exact ⟨_, HM.out, HP.out.symm⟩
    go_wp2_with fail
    refine (HX.out _).mono ?_
    rintro e' w2 ⟨rfl, hb⟩
    have HB2 := lH hb
    clear hb c0 c1
    go_wp2_with fail
    go_ret
    exact ⟨⟨_, rfl, HN.out⟩, HL.out.trans (HB2.out.mono HL.out.size)⟩
  ·obtain rfl : k = len := by omega
   have HN : Hid (decide (0 ≤ (-1 : Int)) = badF l) := by
    show _ = _
    have := HD.out
    rw [List.take_of_length_le (by omega)] at this
    rw [this]; rfl
   go_wp2_with fail
   go_ret
   exact ⟨⟨_, rfl, HN.out⟩, HL.out⟩
theorem contains_field {w : World} {A : Option Addr} {len cap : Nat} {l : List Fld} (h : Fds w A len l) (hl : len ≤ 1000) (hs : ∀ g ∈ l, g.1.size ≤ 1000 ∧ g.2.size ≤ 1000) {p : Bool} (hp : badF l = p) :
 Calls Tryz.prog 69 #[.slice A len cap, .func (.func 72) #[] #[]] w fun e w' => e = .returned (.bool p) ∧ Below w.heap.size w w' := by
 have HC := lH (index_field (cap := cap) h hl hs)
 have HP := lH hp
 clear h hs hp
 go_enter Tryz.func69, Tryz.ntmps69
 go_wp2_with fail
 refine HC.out.mono ?_
 rintro e' w1 ⟨⟨r, rfl, hr⟩, hb⟩
 rw [HP.out] at hr
 have HB := lH hb
 clear hb
 cases p
 ·go_wp2_with fail
  go_ret
  exact ⟨rfl, HB.out⟩
 ·have hr' : (0 : Int) ≤ r := of_decide_eq_true hr
  go_wp2_with fail
  go_ret
  exact ⟨rfl, HB.out⟩
theorem fits_any (k n : Int) (s : ByteArray) {p : Bool} (hp : fitsB k n s = p) (w : World) : Calls Tryz.prog 70 #[.agg #[.int .i64 k, .int .i64 n], .string s] w fun e w' => e = .returned (.bool p) ∧ Below w.heap.size w w' := by
 have HP := lH hp
 clear hp
 have he : s.toList.isEmpty = decide (s.size = 0) := empty_list2 s
 by_cases h0 : k = 0
 ·have HF : Hid (decide (s.size = 0) = p) := by show _ = _; rw [← HP.out]; unfold fitsB; rw [h0]; simp
  obtain ⟨q, hq⟩ : ∃ q, q = decide (s.size = 0) := ⟨_, rfl⟩
  rw [← hq] at he HF
  subst h0
  clear hq
  go_enter Tryz.func70, Tryz.ntmps70
  go_wp2_with fail
  go_ret
  rw [← HF.out]
  exact ⟨rfl, (Below.refl _ _).alloc (nR _) _⟩
 ·have n0 : (k == 0) = false := by rw [beq_eq_false_iff_ne]; exact h0
  by_cases h1 : k = 1
  ·have HF : Hid ((n == (s.size : Int)) = p) := by
    show _ = _
    rw [← HP.out]; unfold fitsB; rw [h1]
    simp
    rw [Bool.eq_iff_iff, beq_iff_eq, decide_eq_true_eq]
   subst h1
   clear he n0
   go_enter Tryz.func70, Tryz.ntmps70
   go_wp2_with fail
   go_ret
   rw [← HF.out]
   exact ⟨rfl, (Below.refl _ _).alloc (nR _) _⟩
  ·have n1 : (k == 1) = false := by rw [beq_eq_false_iff_ne]; exact h1
   have HF : Hid ((k == 3) = p) := by
    show _ = _
    rw [← HP.out]; unfold fitsB
    rw [dF (by omega), dF (by omega), Bool.false_or, Bool.false_or, Bool.eq_iff_iff, beq_iff_eq, decide_eq_true_eq]
   clear he
   go_enter Tryz.func70, Tryz.ntmps70
   go_wp2_with fail
   go_ret
   rw [← HF.out]
   exact ⟨rfl, (Below.refl _ _).alloc (nR _) _⟩
end Go.Proofs.YtaojfiegnebbdaaGreatDoor