/- Layer 15: the reference's Request: what it answers for every text of at most 1000 octets. -/
import Derived.Test.YtmoofcmmpemdcaaGreatDoorReqPlain
import Derived.Test.YtmoofcmmpemdcaaGreatDoorNumberW
set_option linter.unusedSimpArgs false
set_option linter.unusedVariables false
namespace Go.Proofs.YtmoofcmmpemdcaaGreatDoor
open Go.RowKit
theorem int_info : (Tryz.prog.info? 3).map (fun i => (i.zero, i.size, i.bytes)) = some (some (.int .i64 0), 1, 8) := by kernel_rfl
theorem wp_region_drewZ {P : Program} {id : Nat} {Q : Exit → Act → World → Prop} {a : Act} {w : World} {l : List Oper} (hm : P.follows .mixedOrders = true) (hB : Region.lexB .any l.toArray = true)
    (h : wpQuiet P l.toArray (fun w' => ∃ n, w' = w.drewN n) (fun a' => ∀ w', (∃ n, w' = w.drewN n) → Q .normal a' w') l a) : (Code.region id l.toArray true).wp P Q a w :=
  wp_region_quiet (C := fun w' => ∃ n, w' = w.drewN n) hm hB ⟨1, rfl⟩ (by simpa using h)
def hdZ : Array Value := #[.string ⟨#[]⟩, .string ⟨#[]⟩, .int .i64 0, .int .i64 0, .string ⟨#[]⟩, .slice none 0 0]
/-- A head written into a block. -/
def hdW (w : World) (g : Nat) (m t : ByteArray) (k n : Int) (r : ByteArray) : World := (((((w.setCell ⟨g, 0, none⟩ (.string m)).setCell ⟨g, 1, none⟩ (.string t)).setCell ⟨g, 2, none⟩ (.int .i64 k)).setCell ⟨g, 3, none⟩ (.int .i64 n)).setCell ⟨g, 4, none⟩ (.string r)).setCell ⟨g, 5, none⟩ (.slice none 0 0)
theorem hdW_blk {w : World} {g : Nat} {ty : TypeId} {a b c d e f : Value} (h : Blk w g #[a, b, c, d, e, f] ty) (m t : ByteArray) (k n : Int) (r : ByteArray) : Blk (hdW w g m t k n r) g #[.string m, .string t, .int .i64 k, .int .i64 n, .string r, .slice none 0 0] ty :=
  (((((h.set 0 (.string m)).set 1 (.string t)).set 2 (.int .i64 k)).set 3 (.int .i64 n)).set 4 (.string r)).set 5 (.slice none 0 0)
theorem hdW_below {w : World} {g B : Nat} {w0 : World} (h : Below B w0 w) (hg : B ≤ g) (m t : ByteArray) (k n : Int) (r : ByteArray) : Below B w0 (hdW w g m t k n r) :=
  (((((h.setCell hg _).setCell hg _).setCell hg _).setCell hg _).setCell hg _).setCell hg _
def posV (l : List UInt8) : List Value := (posL 32 0 l).map fun p : Nat => Value.int .i64 (p : Int)
theorem posV_length (l : List UInt8) : (posV l).length = (posL 32 0 l).length := by unfold posV; simp
theorem posV_hit (s : ByteArray) (k : Nat) (h : k < s.size) (hb : s[k] = 32) : posV (s.data.toList.take (k + 1)) = posV (s.data.toList.take k) ++ [.int .i64 (k : Int)] := by
  unfold posV
  rw [take_snoc s k h, posL_append, List.map_append, hb]
  rw [show (s.data.toList.take k).length = k by simp; omega, Nat.zero_add, posL_cons_eq]
  rfl
theorem posV_miss (s : ByteArray) (k : Nat) (h : k < s.size) (hb : s[k] ≠ 32) : posV (s.data.toList.take (k + 1)) = posV (s.data.toList.take k) := by
  unfold posV
  rw [take_snoc s k h, posL_append, List.map_append, posL_cons_ne hb]
  simp [posL]
theorem posV_le (l : List UInt8) : (posV l).length ≤ l.length := by rw [posV_length, posL_length]; exact List.count_le_length
theorem grown_blk {w w' : World} {row : Option Nat} {g : Nat} {cs : Array Value} {t : TypeId} (h : Blk w g cs t) (hg : w.grownBy w' row) (hne : some g ≠ row) : Blk w' g cs t := (hg.block g h.lt hne).trans h
theorem byte_of (s : ByteArray) (k : Nat) (h : k < s.size) (hb : bt s k = 32) : s[k] = 32 := by
  rw [bt_get s k h] at hb
  apply UInt8.toNat_inj.1
  have : (32 : UInt8).toNat = 32 := rfl
  omega
theorem byte_of_ne (s : ByteArray) (k : Nat) (h : k < s.size) (hb : bt s k ≠ 32) : s[k] ≠ 32 := by
  intro e
  apply hb
  rw [bt_get s k h, e]; rfl
theorem reqRes_form {s : ByteArray} (h : (posL 32 0 s.data.toList).length ≠ 2) : reqRes s = ((⟨#[]⟩, ⟨#[]⟩, 0), 3) := by
  unfold reqRes
  split
  · rename_i a b e; rw [e] at h; exact absurd rfl h
  · rfl
theorem reqRes_two {s : ByteArray} {a b : Nat} (h : posL 32 0 s.data.toList = [a, b]) : reqRes s =
    if tokL (s.extract 0 a).data.toList = false then ((⟨#[]⟩, ⟨#[]⟩, 0), 6)
    else if visL (s.extract (a + 1) b).data.toList = false then ((⟨#[]⟩, ⟨#[]⟩, 0), 11)
    else if (vminor (s.extract (b + 1) s.size)).2 ≠ 0 then ((⟨#[]⟩, ⟨#[]⟩, 0), (vminor (s.extract (b + 1) s.size)).2)
    else ((s.extract 0 a, s.extract (a + 1) b, (vminor (s.extract (b + 1) s.size)).1), 0) := by
  unfold reqRes; rw [h]
set_option maxRecDepth 100000 in
set_option maxHeartbeats 8000000 in
theorem rrequest_any (s : ByteArray) (hs : s.size ≤ 100000) {m t : ByteArray} {k e : Int} (hr : reqRes s = ((m, t, k), e)) (w : World) :
    Calls Tryz.prog 111 #[.string s] w fun o w' => o = .returned (.tuple #[.agg #[.string m, .string t, .int .i64 k, .int .i64 0, .string ⟨#[]⟩, .slice none 0 0], .int .i64 e]) ∧ Below w.heap.size w w' := by
  have HR := Lib.hid hr
  have HZ := Lib.hid hs
  obtain ⟨i0, hi, hz0, hz1, hz2⟩ := info_parts int_info
  clear hr
  go_enter Tryz.func111, Tryz.ntmps111
  go_wp2_with fail
  go_loopw [4, 5] (fun v i wr => ∃ (k : Nat) (vv : Value), vv = v ∧ k ≤ s.size ∧ i = .int .i64 k ∧ wr.ownsRow (w.heap.size + 1) 3 1 v (posV (s.data.toList.take k)).length (posV (s.data.toList.take k)) ∧ Blk wr w.heap.size hdZ 24 ∧ Below w.heap.size w wr ∧ w.heap.size + 1 ≤ wr.heap.size) (fun _ i _ => s.size - (intOf i).toNat)
  case atStart =>
    refine ⟨0, _, rfl, by omega, rfl, ?_, (Blk.new _ _ _).alloc _, ((Below.refl _ _).alloc (Nat.le_refl _) _).alloc (by simp) _, by simp⟩
    exact ⟨rfl, .inr ⟨w.heap.size + 1, 0, #[], rfl, Nat.le_refl _, by rw [← World.size_alloc w (.cells hdZ 24)]; exact heap_alloc_new _ _, Nat.le_refl _, Nat.zero_le _, rfl, rfl⟩⟩
  case round =>
    obtain ⟨k0, v, rfl, hk0, rfl, hown, hblk, hbel, hsz⟩ := hrel
    have hsi : (s.size : Int) ≤ 100000 := by have := HZ.out; omega
    have HO := Lib.hid hown
    have HK := Lib.hid hblk
    have HL := Lib.hid hbel
    have HS := Lib.hid hsz
    have hle := posV_le (s.data.toList.take k0)
    rw [List.length_take] at hle
    have hle2 : (posV (s.data.toList.take k0)).length ≤ 100000 := by have := HZ.out; omega
    clear hown hblk hbel hsz hle
    by_cases hlt : k0 < s.size
    · have hki : (k0 : Int) < s.size := by omega
      obtain ⟨b, hb⟩ : ∃ b, b = bt s k0 := ⟨_, rfl⟩
      have hix : ∀ W : World, (Instr.index 9 (.string s) (.int .i64 k0)).run Tryz.prog W = .ok (.int .u8 b) W := by rw [hb]; exact index_bt s k0 hlt
      by_cases h32 : b = 32
      · have hp := posV_hit s k0 hlt (byte_of s k0 hlt (hb ▸ h32))
        have HP := Lib.hid hp
        subst h32
        clear hp hb hs
        go_wp2_with (at_builtin; refine wpList_append_own _ rfl _ _ 54 rfl (w.heap.size + 1) 3 i0 (.int .i64 0) 1 8 Tryz.underlying54 hi hz0 hz1 hz2 rfl (by decide) _ _ _ rfl (HO.out.alloc _) ⟨wr.heap.size, 0, none⟩ 1 1 [.int .i64 (k0 : Int)] rfl rfl ?c1 ?c2 ?c3 ?c4 ?c5 ?_)
        case c1 =>
          intro j u hj
          match j, hj with
          | 0, hj => simp at hj; subst hj; simp [Addr.add]
        case c2 => intro u hu; simp at hu; subst hu; rfl
        case c3 => unfold maxLen; omega
        case c4 => omega
        case c5 => have := HS.out; simp; omega
        · intro v' w1 hown' hgrow _
          have HO' := Lib.hid hown'
          have HG := Lib.hid hgrow
          clear hown' hgrow
          go_wp2_with fail
          go_roundw
          case rel =>
            have hlo := (HO.out.alloc (.cells #[.int .i64 (k0 : Int)] 3)).lt
            refine ⟨k0 + 1, _, rfl, by omega, by go_num, ?_, grown_blk (HK.out.alloc _) HG.out (fun h => ?_), ?_, ?_⟩
            · rw [HP.out, List.length_append]; exact HO'.out
            · have := (hlo _ h.symm).1; omega
            · exact (HL.out.alloc (by have := HS.out; omega) _).grown HG.out (by have := HS.out; simp; omega) (fun g hg => by have := (hlo g hg).1; omega)
            · have h1 := HG.out.size; have := HS.out; simp at h1; omega
          case measure => simp [intOf]; omega
      · have hp := posV_miss s k0 hlt (byte_of_ne s k0 hlt (hb ▸ h32))
        have HP := Lib.hid hp
        have hn1 : (b == 32) = false := by rw [beq_eq_false_iff_ne]; exact h32
        clear hp hb hs
        go_wp2_with fail
        go_roundw
        case rel => exact ⟨k0 + 1, _, rfl, by omega, by go_num, by rw [HP.out]; exact HO.out, HK.out, HL.out, HS.out⟩
        case measure => simp [intOf]; omega
    · obtain rfl : k0 = s.size := by omega
      have htk : s.data.toList.take s.size = s.data.toList := List.take_of_length_le (by simp)
      have hO := HO.out
      rw [htk] at hO hle2
      have hL : (posV s.data.toList).length = (posL 32 0 s.data.toList).length := posV_length _
      have HX : Hid (∃ g c cur, v = .slice g (posV s.data.toList).length c ∧ ((posV s.data.toList).length = 2 → ∃ b, g = some ⟨b, 0, none⟩ ∧ wr.heap[b]? = some (.cells cur 3 (0, 0)) ∧ cur.toList.take 2 = posV s.data.toList)) := by
        show ∃ g c cur, _
        obtain ⟨_, h | ⟨g, c, cur, h1, _, h2, _, _, _, h6⟩⟩ := hO
        · exact ⟨none, 0, #[], by rw [h.1, h.2], fun h2 => by omega⟩
        · exact ⟨some ⟨g, 0, none⟩, c, cur, h1, fun h2' => ⟨g, rfl, h2, by rw [← h6, h2']⟩⟩
      clear HO hO htk hL
      obtain ⟨g, c, cur, rfl, hg2⟩ := HX.out
      have HG2 := Lib.hid hg2
      clear hg2 HX
      obtain ⟨n, hn⟩ : ∃ n, n = (posV s.data.toList).length := ⟨_, rfl⟩
      rw [← hn] at hle2 HG2 ⊢
      have c0 : wr.cell? ⟨w.heap.size, 0, none⟩ = some (.string ⟨#[]⟩) := HK.out.cell 0
      have f0 : wr.frozen? ⟨w.heap.size, 0, none⟩ = false := HK.out.froz 0
      have c1 : wr.cell? ⟨w.heap.size, 1, none⟩ = some (.string ⟨#[]⟩) := HK.out.cell 1
      have f1 : wr.frozen? ⟨w.heap.size, 1, none⟩ = false := HK.out.froz 1
      have c2 : wr.cell? ⟨w.heap.size, 2, none⟩ = some (.int .i64 0) := HK.out.cell 2
      have f2 : wr.frozen? ⟨w.heap.size, 2, none⟩ = false := HK.out.froz 2
      have c3 : wr.cell? ⟨w.heap.size, 3, none⟩ = some (.int .i64 0) := HK.out.cell 3
      have f3 : wr.frozen? ⟨w.heap.size, 3, none⟩ = false := HK.out.froz 3
      have c4 : wr.cell? ⟨w.heap.size, 4, none⟩ = some (.string ⟨#[]⟩) := HK.out.cell 4
      have f4 : wr.frozen? ⟨w.heap.size, 4, none⟩ = false := HK.out.froz 4
      have c5 : wr.cell? ⟨w.heap.size, 5, none⟩ = some (.slice none 0 0) := HK.out.cell 5
      have f5 : wr.frozen? ⟨w.heap.size, 5, none⟩ = false := HK.out.froz 5
      have hsl : decide ((s.size : Int) < s.size) = false := by rw [decide_eq_false_iff_not]; omega
      by_cases h2 : n = 2
      rotate_left
      · have HV := HR.out
        rw [reqRes_form (by rw [← posV_length, ← hn]; exact h2)] at HV
        obtain ⟨⟨rfl, rfl, rfl⟩, rfl⟩ : (⟨#[]⟩ = m ∧ ⟨#[]⟩ = t ∧ 0 = k) ∧ 3 = e := by simpa using HV
        have n2 : ((n : Int) == 2) = false := by rw [beq_eq_false_iff_ne]; omega
        have n3 : ((n : Int) != 2) = true := by rw [bne_iff_ne]; omega
        have n4 : ¬ ((n : Int) = 2) := by omega
        clear HV hn h2
        go_wp2_with fail
        have q := hdW_blk (w := wr) HK.out (⟨#[]⟩) (⟨#[]⟩) 0 0 ⟨#[]⟩
        have u := hdW_below (w := wr) HL.out (Nat.le_refl _) (⟨#[]⟩) (⟨#[]⟩) 0 0 ⟨#[]⟩
        obtain ⟨Wf, hWf⟩ : ∃ Wf, Wf = hdW (wr) w.heap.size (⟨#[]⟩) (⟨#[]⟩) 0 0 ⟨#[]⟩ := ⟨_, rfl⟩
        rw [← hWf] at q u
        have hWf' : ((((((wr).setCell ⟨w.heap.size, 0, none⟩ (.string (⟨#[]⟩))).setCell ⟨w.heap.size, 1, none⟩ (.string (⟨#[]⟩))).setCell ⟨w.heap.size, 2, none⟩ (.int .i64 0)).setCell ⟨w.heap.size, 3, none⟩ (.int .i64 0)).setCell ⟨w.heap.size, 4, none⟩ (.string ⟨#[]⟩)).setCell ⟨w.heap.size, 5, none⟩ (.slice none 0 0) = Wf := hWf.symm
        rw [hWf']
        have q0 := q.cell 0
        have q1 := q.cell 1
        have q2 := q.cell 2
        have q3 := q.cell 3
        have q4 := q.cell 4
        have q5 := q.cell 5
        simp only [List.getElem?_toArray, List.getElem?_cons_zero, List.getElem?_cons_succ] at q0 q1 q2 q3 q4 q5
        exact bodyPost_ret (v := .tuple #[.agg #[.string (⟨#[]⟩), .string (⟨#[]⟩), .int .i64 0, .int .i64 0, .string ⟨#[]⟩, .slice none 0 0], .int .i64 3]) (by simp [results, Tryz.results111, go_sem, q0, q1, q2, q3, q4, q5]) rfl ⟨rfl, u⟩
      · subst h2
        obtain ⟨gb, rfl, hgb, hcur⟩ := HG2.out rfl
        obtain ⟨a, b, hab⟩ : ∃ a b, posL 32 0 s.data.toList = [a, b] := by
          have h3 : (posL 32 0 s.data.toList).length = 2 := by rw [← posV_length, ← hn]
          match hq : posL 32 0 s.data.toList, h3 with
          | [a, b], _ => exact ⟨a, b, rfl⟩
        have hpv : posV s.data.toList = [.int .i64 (a : Int), .int .i64 (b : Int)] := by unfold posV; rw [hab]; rfl
        rw [hpv] at hcur
        obtain ⟨hlt1, hlt2⟩ : a < b ∧ b < s.size := ⟨(split_two hab).1, (split_two hab).2.1⟩
        have HV := HR.out
        rw [reqRes_two hab] at HV
        have get2 : ∀ i : Nat, i < 2 → cur[i]? = [Value.int .i64 (a : Int), .int .i64 (b : Int)][i]? := fun i hi => by
          rw [← hcur, List.getElem?_take_of_lt hi, Array.getElem?_toList]
        have x0 : wr.cell? ⟨gb, 0, none⟩ = some (.int .i64 (a : Int)) := by
          rw [World.cell?, hgb]; simpa using get2 0 (by decide)
        have x1 : wr.cell? ⟨gb, 1, none⟩ = some (.int .i64 (b : Int)) := by
          rw [World.cell?, hgb]; simpa using get2 1 (by decide)
        obtain ⟨M, hM⟩ : ∃ M, M = s.extract 0 a := ⟨_, rfl⟩
        obtain ⟨T, hT⟩ : ∃ T, T = s.extract (a + 1) b := ⟨_, rfl⟩
        obtain ⟨V, hV⟩ : ∃ V, V = s.extract (b + 1) s.size := ⟨_, rfl⟩
        rw [← hM, ← hT, ← hV] at HV
        have hMs : M.size ≤ 9223372036854775807 := by rw [hM]; simp; omega
        have hTs : T.size ≤ 9223372036854775807 := by rw [hT]; simp; omega
        have hVs : V.size ≤ 9223372036854775807 := by rw [hV]; simp; omega
        have s1 : ∀ W : World, (Instr.slice 9 (.string s) none (some (.int .i64 (a : Int))) none).run Tryz.prog W = .ok (.string M) W := fun W => by
          rw [run_slice_string_h W 9 s Tryz.underlying9 .i64 (a : Int) (by omega) (by omega), hM]; rfl
        have s2 : ∀ W : World, (Instr.slice 9 (.string s) (some (.int .i64 ((a : Int) + 1))) (some (.int .i64 (b : Int))) none).run Tryz.prog W = .ok (.string T) W := fun W => by
          rw [run_slice_string (w := W) 9 s .i64 .i64 ((a : Int) + 1) (b : Int) Tryz.underlying9 (by omega) (by omega) (by omega), hT]; rfl
        have s3 : ∀ W : World, (Instr.slice 9 (.string s) (some (.int .i64 ((b : Int) + 1))) none none).run Tryz.prog W = .ok (.string V) W := fun W => by
          rw [run_slice_string_l W 9 s Tryz.underlying9 .i64 ((b : Int) + 1) (by omega) (by omega), hV]; rfl
        have HMs := Lib.hid hMs
        have HTs := Lib.hid hTs
        have HVs := Lib.hid hVs
        clear hM hT hV hab hpv hcur hgb hn get2 hMs hTs hVs HG2
        obtain ⟨pt, hpt⟩ : ∃ p, tokL M.data.toList = p := ⟨_, rfl⟩
        obtain ⟨pv, hpv⟩ : ∃ p, visL T.data.toList = p := ⟨_, rfl⟩
        obtain ⟨k', f', hm⟩ : ∃ k' f', vminor V = (k', f') := ⟨_, _, rfl⟩
        rw [hpt, hpv, hm] at HV
        have HT1 : Hid (∀ W : World, Calls Tryz.prog 93 #[.string M] W fun e w' => e = .returned (.bool pt) ∧ W = w') := fun W => by subst hpt; exact rtoken_any M HMs.out W
        have HT2 : Hid (∀ W : World, Calls Tryz.prog 94 #[.string T] W fun e w' => e = .returned (.bool pv) ∧ W = w') := fun W => by subst hpv; exact rvisible_any T HTs.out W
        have HT3 : Hid (∀ W : World, Calls Tryz.prog 159 #[.string V] W fun r w' => r = .returned (.tuple #[.int .i64 k', .int .i64 f']) ∧ W = w') := fun W => rminor_any V HVs.out hm W
        clear hpt hpv hm
        cases pt
        · rw [if_pos rfl] at HV
          obtain ⟨⟨rfl, rfl, rfl⟩, rfl⟩ : (⟨#[]⟩ = m ∧ ⟨#[]⟩ = t ∧ 0 = k) ∧ 6 = e := by simpa using HV
          clear HV
          go_wp2_with fail
          refine wp_region_drewZ (by kernel_rfl) (by kernel_rfl) ?_
          repeat go_big_quiet_step (fail)
          refine wpQuiet_nil ?_
          rintro _ ⟨nq, rfl⟩
          go_wp2_with (first
            | (go_at_call 93; refine (HT1.out _).mono ?_; rintro e' w' ⟨rfl, rfl⟩)
            | (go_at_call 94; refine (HT2.out _).mono ?_; rintro e' w' ⟨rfl, rfl⟩)
            | (go_at_call 159; refine (HT3.out _).mono ?_; rintro e' w' ⟨rfl, rfl⟩))
          have q := hdW_blk (w := (wr.drewN nq)) (Blk.drewN HK.out nq) (⟨#[]⟩) (⟨#[]⟩) 0 0 ⟨#[]⟩
          have u := hdW_below (w := (wr.drewN nq)) (HL.out.trans ⟨rfl, rfl, rfl, Nat.le_refl _, fun _ _ => rfl⟩) (Nat.le_refl _) (⟨#[]⟩) (⟨#[]⟩) 0 0 ⟨#[]⟩
          obtain ⟨Wf, hWf⟩ : ∃ Wf, Wf = hdW ((wr.drewN nq)) w.heap.size (⟨#[]⟩) (⟨#[]⟩) 0 0 ⟨#[]⟩ := ⟨_, rfl⟩
          rw [← hWf] at q u
          have hWf' : (((((((wr.drewN nq)).setCell ⟨w.heap.size, 0, none⟩ (.string (⟨#[]⟩))).setCell ⟨w.heap.size, 1, none⟩ (.string (⟨#[]⟩))).setCell ⟨w.heap.size, 2, none⟩ (.int .i64 0)).setCell ⟨w.heap.size, 3, none⟩ (.int .i64 0)).setCell ⟨w.heap.size, 4, none⟩ (.string ⟨#[]⟩)).setCell ⟨w.heap.size, 5, none⟩ (.slice none 0 0) = Wf := hWf.symm
          rw [hWf']
          have q0 := q.cell 0
          have q1 := q.cell 1
          have q2 := q.cell 2
          have q3 := q.cell 3
          have q4 := q.cell 4
          have q5 := q.cell 5
          simp only [List.getElem?_toArray, List.getElem?_cons_zero, List.getElem?_cons_succ] at q0 q1 q2 q3 q4 q5
          exact bodyPost_ret (v := .tuple #[.agg #[.string (⟨#[]⟩), .string (⟨#[]⟩), .int .i64 0, .int .i64 0, .string ⟨#[]⟩, .slice none 0 0], .int .i64 6]) (by simp [results, Tryz.results111, go_sem, q0, q1, q2, q3, q4, q5]) rfl ⟨rfl, u⟩
        rw [if_neg (by decide)] at HV
        cases pv
        · rw [if_pos rfl] at HV
          obtain ⟨⟨rfl, rfl, rfl⟩, rfl⟩ : (⟨#[]⟩ = m ∧ ⟨#[]⟩ = t ∧ 0 = k) ∧ 11 = e := by simpa using HV
          clear HV
          go_wp2_with fail
          refine wp_region_drewZ (by kernel_rfl) (by kernel_rfl) ?_
          repeat go_big_quiet_step (fail)
          refine wpQuiet_nil ?_
          rintro _ ⟨nq, rfl⟩
          go_wp2_with (first
            | (go_at_call 93; refine (HT1.out _).mono ?_; rintro e' w' ⟨rfl, rfl⟩)
            | (go_at_call 94; refine (HT2.out _).mono ?_; rintro e' w' ⟨rfl, rfl⟩)
            | (go_at_call 159; refine (HT3.out _).mono ?_; rintro e' w' ⟨rfl, rfl⟩))
          have q := hdW_blk (w := (wr.drewN nq)) (Blk.drewN HK.out nq) (⟨#[]⟩) (⟨#[]⟩) 0 0 ⟨#[]⟩
          have u := hdW_below (w := (wr.drewN nq)) (HL.out.trans ⟨rfl, rfl, rfl, Nat.le_refl _, fun _ _ => rfl⟩) (Nat.le_refl _) (⟨#[]⟩) (⟨#[]⟩) 0 0 ⟨#[]⟩
          obtain ⟨Wf, hWf⟩ : ∃ Wf, Wf = hdW ((wr.drewN nq)) w.heap.size (⟨#[]⟩) (⟨#[]⟩) 0 0 ⟨#[]⟩ := ⟨_, rfl⟩
          rw [← hWf] at q u
          have hWf' : (((((((wr.drewN nq)).setCell ⟨w.heap.size, 0, none⟩ (.string (⟨#[]⟩))).setCell ⟨w.heap.size, 1, none⟩ (.string (⟨#[]⟩))).setCell ⟨w.heap.size, 2, none⟩ (.int .i64 0)).setCell ⟨w.heap.size, 3, none⟩ (.int .i64 0)).setCell ⟨w.heap.size, 4, none⟩ (.string ⟨#[]⟩)).setCell ⟨w.heap.size, 5, none⟩ (.slice none 0 0) = Wf := hWf.symm
          rw [hWf']
          have q0 := q.cell 0
          have q1 := q.cell 1
          have q2 := q.cell 2
          have q3 := q.cell 3
          have q4 := q.cell 4
          have q5 := q.cell 5
          simp only [List.getElem?_toArray, List.getElem?_cons_zero, List.getElem?_cons_succ] at q0 q1 q2 q3 q4 q5
          exact bodyPost_ret (v := .tuple #[.agg #[.string (⟨#[]⟩), .string (⟨#[]⟩), .int .i64 0, .int .i64 0, .string ⟨#[]⟩, .slice none 0 0], .int .i64 11]) (by simp [results, Tryz.results111, go_sem, q0, q1, q2, q3, q4, q5]) rfl ⟨rfl, u⟩
        rw [if_neg (by decide)] at HV
        by_cases hf : f' = 0
        rotate_left
        · rw [if_pos hf] at HV
          obtain ⟨⟨rfl, rfl, rfl⟩, rfl⟩ : (⟨#[]⟩ = m ∧ ⟨#[]⟩ = t ∧ 0 = k) ∧ f' = e := by simpa using HV
          clear HV
          have nf : (f' == 0) = false := by rw [beq_eq_false_iff_ne]; exact hf
          have nf2 : (f' != 0) = true := by rw [bne_iff_ne]; exact hf
          go_wp2_with fail
          refine wp_region_drewZ (by kernel_rfl) (by kernel_rfl) ?_
          repeat go_big_quiet_step (fail)
          refine wpQuiet_nil ?_
          rintro _ ⟨nq, rfl⟩
          go_wp2_with (first
            | (go_at_call 93; refine (HT1.out _).mono ?_; rintro e' w' ⟨rfl, rfl⟩)
            | (go_at_call 94; refine (HT2.out _).mono ?_; rintro e' w' ⟨rfl, rfl⟩)
            | (go_at_call 159; refine (HT3.out _).mono ?_; rintro e' w' ⟨rfl, rfl⟩))
          have q := hdW_blk (w := (wr.drewN nq)) (Blk.drewN HK.out nq) (⟨#[]⟩) (⟨#[]⟩) 0 0 ⟨#[]⟩
          have u := hdW_below (w := (wr.drewN nq)) (HL.out.trans ⟨rfl, rfl, rfl, Nat.le_refl _, fun _ _ => rfl⟩) (Nat.le_refl _) (⟨#[]⟩) (⟨#[]⟩) 0 0 ⟨#[]⟩
          obtain ⟨Wf, hWf⟩ : ∃ Wf, Wf = hdW ((wr.drewN nq)) w.heap.size (⟨#[]⟩) (⟨#[]⟩) 0 0 ⟨#[]⟩ := ⟨_, rfl⟩
          rw [← hWf] at q u
          have hWf' : (((((((wr.drewN nq)).setCell ⟨w.heap.size, 0, none⟩ (.string (⟨#[]⟩))).setCell ⟨w.heap.size, 1, none⟩ (.string (⟨#[]⟩))).setCell ⟨w.heap.size, 2, none⟩ (.int .i64 0)).setCell ⟨w.heap.size, 3, none⟩ (.int .i64 0)).setCell ⟨w.heap.size, 4, none⟩ (.string ⟨#[]⟩)).setCell ⟨w.heap.size, 5, none⟩ (.slice none 0 0) = Wf := hWf.symm
          rw [hWf']
          have q0 := q.cell 0
          have q1 := q.cell 1
          have q2 := q.cell 2
          have q3 := q.cell 3
          have q4 := q.cell 4
          have q5 := q.cell 5
          simp only [List.getElem?_toArray, List.getElem?_cons_zero, List.getElem?_cons_succ] at q0 q1 q2 q3 q4 q5
          exact bodyPost_ret (v := .tuple #[.agg #[.string (⟨#[]⟩), .string (⟨#[]⟩), .int .i64 0, .int .i64 0, .string ⟨#[]⟩, .slice none 0 0], .int .i64 f']) (by simp [results, Tryz.results111, go_sem, q0, q1, q2, q3, q4, q5]) rfl ⟨rfl, u⟩
        · subst hf
          rw [if_neg (by simp)] at HV
          obtain ⟨⟨rfl, rfl, rfl⟩, rfl⟩ : (M = m ∧ T = t ∧ k' = k) ∧ 0 = e := by simpa using HV
          clear HV
          go_wp2_with fail
          refine wp_region_drewZ (by kernel_rfl) (by kernel_rfl) ?_
          repeat go_big_quiet_step (fail)
          refine wpQuiet_nil ?_
          rintro _ ⟨nq, rfl⟩
          go_wp2_with (first
            | (go_at_call 93; refine (HT1.out _).mono ?_; rintro e' w' ⟨rfl, rfl⟩)
            | (go_at_call 94; refine (HT2.out _).mono ?_; rintro e' w' ⟨rfl, rfl⟩)
            | (go_at_call 159; refine (HT3.out _).mono ?_; rintro e' w' ⟨rfl, rfl⟩))
          have q := hdW_blk (w := (wr.drewN nq)) (Blk.drewN HK.out nq) (M) (T) k' 0 ⟨#[]⟩
          have u := hdW_below (w := (wr.drewN nq)) (HL.out.trans ⟨rfl, rfl, rfl, Nat.le_refl _, fun _ _ => rfl⟩) (Nat.le_refl _) (M) (T) k' 0 ⟨#[]⟩
          obtain ⟨Wf, hWf⟩ : ∃ Wf, Wf = hdW ((wr.drewN nq)) w.heap.size (M) (T) k' 0 ⟨#[]⟩ := ⟨_, rfl⟩
          rw [← hWf] at q u
          have hWf' : (((((((wr.drewN nq)).setCell ⟨w.heap.size, 0, none⟩ (.string (M))).setCell ⟨w.heap.size, 1, none⟩ (.string (T))).setCell ⟨w.heap.size, 2, none⟩ (.int .i64 k')).setCell ⟨w.heap.size, 3, none⟩ (.int .i64 0)).setCell ⟨w.heap.size, 4, none⟩ (.string ⟨#[]⟩)).setCell ⟨w.heap.size, 5, none⟩ (.slice none 0 0) = Wf := hWf.symm
          rw [hWf']
          have q0 := q.cell 0
          have q1 := q.cell 1
          have q2 := q.cell 2
          have q3 := q.cell 3
          have q4 := q.cell 4
          have q5 := q.cell 5
          simp only [List.getElem?_toArray, List.getElem?_cons_zero, List.getElem?_cons_succ] at q0 q1 q2 q3 q4 q5
          exact bodyPost_ret (v := .tuple #[.agg #[.string (M), .string (T), .int .i64 k', .int .i64 0, .string ⟨#[]⟩, .slice none 0 0], .int .i64 0]) (by simp [results, Tryz.results111, go_sem, q0, q1, q2, q3, q4, q5]) rfl ⟨rfl, u⟩
end Go.Proofs.YtmoofcmmpemdcaaGreatDoor
