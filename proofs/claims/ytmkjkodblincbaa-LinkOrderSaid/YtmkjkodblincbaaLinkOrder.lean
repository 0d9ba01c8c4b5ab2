/- Package abutmentlaw38's LinkOrder: its walk. -/
import Derived.Test.YtmkjkodblincbaaLinkPlays
namespace Go.Proofs.Ytmkjkodblincbaa
open Go.RowKit
/-- What is held at every turn: what went and what waits is what was written; what is left is a tail of what was given. -/
structure OrdL (d : LD) (P T G : ByteArray) : Prop where
  w : P.data.toList = T.data.toList ++ (d.O ++ d.more.data.toList)
  g : ∃ pre, G.data.toList = pre ++ d.I
  e : d.ended = false
  s : d.shut = false
theorem OrdL.sum {d : LD} {P T G : ByteArray} (h : OrdL d P T G) : T.size + d.O.length + d.more.size = P.size := by
  have h1 := congrArg List.length h.w
  rw [List.length_append, List.length_append, bsize, bsize, bsize] at h1
  omega
theorem OrdL.left {d : LD} {P T G : ByteArray} (h : OrdL d P T G) : ∃ (x : ByteArray) (z : Nat), x.data.toList = d.I ∧ G.size = z + x.size ∧ G.extract z G.size = x := by
  obtain ⟨pre, hp⟩ := h.g
  refine ⟨⟨d.I.toArray⟩, pre.length, rfl, ?_, bytes_ext ?_⟩
  · rw [← bsize, hp, List.length_append]; rfl
  · rw [data_extract, hp, List.drop_left, List.take_of_length_le]
    rw [← bsize, hp, List.length_append]; omega
set_option maxRecDepth 100000 in
set_option maxHeartbeats 4000000 in
theorem lorder_any {w : World} {A : Option Addr} {len cap : Nat} {l : List GAct} {most : Int} (h : Acts w A len l) (hlm : len ≤ 9223372036854775807) :
    Calls Try.prog 8 #[.int .i64 most, .slice A len cap] w fun e w' => e = .returned (.bool true) ∧ Below w.heap.size w w' := by
  have H := Lib.hid h
  clear h
  have N0 := Lib.hid (show ∀ W : World, NoLink W none from fun _ => .inl rfl)
  have hee : (⟨#[]⟩ : ByteArray).toList.isEmpty = true := by rw [ByteArray.toList_eq]; rfl
  have hj : (⟨#[]⟩ : ByteArray) ++ ⟨#[]⟩ = ⟨#[]⟩ := by decide
  go_enter Try.func8, Try.ntmps8
  go_wp2_with fail
  obtain ⟨W, hW⟩ : ∃ W, W = (w.alloc (.cells #[.pointer none, .pointer none, .string ⟨#[]⟩, .bool false, .bool false] 70)).alloc (.cells #[.pointer none, .pointer (some ⟨w.heap.size, 0, none⟩)] 60) := ⟨_, rfl⟩
  have bW : Below w.heap.size w W := by rw [hW]; exact ((Below.refl _ _).alloc (Nat.le_refl _) _).alloc (by simp) _
  have NW : NoLink W (some ⟨w.heap.size, 0, none⟩) := .inr ⟨_, rfl, by rw [hW]; exact (Blk.new _ _ _).alloc _⟩
  have RW : Blk W (w.heap.size + 1) #[.pointer none, .pointer (some ⟨w.heap.size, 0, none⟩)] 60 := by rw [hW]; exact Blk.new' (by simp)
  have hget : ∀ k : Nat, k < 2 → ∃ p, W.cell? ⟨w.heap.size + 1, k, none⟩ = some (.pointer p) ∧ NoLink W p := fun k hk => by
    match k with
    | 0 => exact ⟨none, RW.cell 0, .inl rfl⟩
    | 1 => exact ⟨_, RW.cell 1, NW⟩
    | k + 2 => omega
  have HG := Lib.hid hget
  have BW := Lib.hid bW
  rw [← hW]
  clear hget NW RW hW bW
  go_loopw [22] (fun i wr => ∃ k : Nat, k ≤ 2 ∧ i = .int .i64 k ∧ wr = W) (fun i _ => 2 - (intOf i).toNat)
  case atStart => exact ⟨0, by omega, rfl, rfl⟩
  case round =>
    obtain ⟨k, hk, rfl, rfl⟩ := hrel
    by_cases hlt : k < 2
    · obtain ⟨p, cp, np⟩ := HG.out k hlt
      have NP := Lib.hid np
      clear np
      go_wp2_with fail
      refine (end_no NP.out).mono ?_
      rintro e w' ⟨rfl, rfl⟩
      go_wp2_with fail
      refine (use_no NP.out 1).mono ?_
      rintro e w' ⟨rfl, rfl⟩
      go_wp2_with fail
      refine (write_no NP.out ⟨#[97]⟩).mono ?_
      rintro e w' ⟨rfl, rfl⟩
      go_wp2_with fail
      refine (shut_no NP.out).mono ?_
      rintro e w' ⟨rfl, rfl⟩
      go_wp2_with fail
      refine (give_no NP.out ⟨#[97]⟩).mono ?_
      rintro e w' ⟨rfl, rfl⟩
      go_wp2_with fail
      refine (waits_no NP.out).mono ?_
      rintro e w' ⟨rfl, rfl⟩
      go_wp2_with fail
      refine (left_no NP.out).mono ?_
      rintro e w' ⟨rfl, rfl⟩
      go_wp2_with fail
      refine (take_no NP.out 5).mono ?_
      rintro e w' ⟨rfl, rfl⟩
      go_wp2_with fail
      refine (dry_no NP.out).mono ?_
      rintro e w' ⟨rfl, rfl⟩
      go_wp2_with fail
      refine (free_no NP.out).mono ?_
      rintro e w' ⟨rfl, rfl⟩
      go_wp2_with fail
      refine (over_no NP.out).mono ?_
      rintro e w' ⟨rfl, rfl⟩
      go_wp2_with fail
      refine (live_no NP.out).mono ?_
      rintro e w' ⟨rfl, rfl⟩
      go_wp2_with fail
      go_roundw
      case rel => exact ⟨k + 1, by omega, by go_num, by trivial⟩
      case measure => simp [intOf]; omega
    · have hz := BW.out.size
      have H2 := Lib.hid (H.out.below BW.out)
      by_cases h0 : most < 0
      · have m0 : decide (most < 0) = true := by simpa using h0
        go_wp2_with fail
        refine (llives _).mono ?_
        rintro e w' ⟨rfl, hb2⟩
        go_wp2_with fail
        go_ret
        exact ⟨rfl, BW.out.trans (hb2.mono hz)⟩
      have m0 : decide (most < 0) = false := by simpa using h0
      by_cases h2 : 2000 < most
      · have m2 : decide (2000 < most) = true := by simpa using h2
        go_wp2_with fail
        refine (llives _).mono ?_
        rintro e w' ⟨rfl, hb2⟩
        go_wp2_with fail
        go_ret
        exact ⟨rfl, BW.out.trans (hb2.mono hz)⟩
      have m2 : decide (2000 < most) = false := by simpa using h2
      cases hf : (decide (len ≤ 60) && l.all short) with
      | false =>
        have HF := Lib.hid hf
        clear hf
        go_wp2_with fail
        refine (lfew_all H2.out hlm).mono ?_
        rintro e wf ⟨rfl, bf⟩
        rw [HF.out]
        have bfz := bf.size
        go_wp2_with fail
        refine (llives _).mono ?_
        rintro e w' ⟨rfl, hb2⟩
        go_wp2_with fail
        go_ret
        exact ⟨rfl, (BW.out.trans (bf.mono hz)).trans (hb2.mono (by omega))⟩
      | true =>
        have HF := Lib.hid hf
        rw [Bool.and_eq_true, decide_eq_true_eq] at hf
        obtain ⟨hl, hs⟩ := hf
        obtain ⟨m, rfl⟩ := Int.eq_ofNat_of_zero_le (show 0 ≤ most by omega)
        have HS := Lib.hid hs
        clear hs
        go_wp2_with fail
        refine (lfew_all H2.out hlm).mono ?_
        rintro e wf ⟨rfl, bf⟩
        rw [HF.out]
        have BF := Lib.hid (BW.out.trans (bf.mono hz))
        have bfz : w.heap.size ≤ wf.heap.size := (BW.out.trans (bf.mono hz)).size
        clear bf
        go_wp2_with fail
        refine (lnew_at m (by omega) _).mono ?_
        rintro e w1 ⟨b, bi, gi, bo, go, rfl, l1, f1, b1⟩
        have L1 := Lib.hid l1
        have F1 := Lib.hid f1
        have B1 := Lib.hid (BF.out.trans (b1.mono bfz))
        have z1 := b1.size
        clear l1 f1 b1
        go_wp2_with fail
        have HL : ∀ a ∈ l, a.text.size ≤ 300 := fun a ha => by
          have := List.all_eq_true.1 HS.out a ha
          simpa [short] using this
        have HLL := Lib.hid HL
        clear HL
        go_loopw [9, 10, 11, 83] (fun p t g i wr => ∃ (k : Nat) (d : LD) (P T G : ByteArray), k ≤ len ∧ i = .int .i64 k ∧ p = .string P ∧ t = .string T ∧ g = .string G ∧ P.size ≤ 300 * k ∧ G.size ≤ 300 * k ∧ T.size + d.O.length + d.more.size = P.size ∧ OrdL d P T G ∧ IsL wr b d ∧ SameB ⟨bi, gi, bo, go, m, [], [], ⟨#[]⟩, false, false⟩ d ∧ Below w.heap.size w wr) (fun _ _ _ i _ => len - (intOf i).toNat)
        case atStart => exact ⟨0, ⟨bi, gi, bo, go, m, [], [], ⟨#[]⟩, false, false⟩, ⟨#[]⟩, ⟨#[]⟩, ⟨#[]⟩, Nat.zero_le _, rfl, rfl, rfl, rfl, Nat.zero_le _, Nat.zero_le _, rfl, ⟨rfl, ⟨[], rfl⟩, rfl, rfl⟩, L1.out, ⟨rfl, rfl, rfl, rfl, rfl⟩, B1.out⟩
        case round =>
          obtain ⟨k, d, P, T, G, hk, rfl, rfl, rfl, rfl, hP, hG, hTS, hor, hq, hsb, hnx⟩ := hrel
          have HQ := Lib.hid hq
          have HO := Lib.hid hor
          have HB := Lib.hid hsb
          have hmd := hsb.2.2.2.2
          have hTP : T.size ≤ P.size := by omega
          have hmz : d.more.size ≤ P.size := by omega
          clear hq hor hsb
          by_cases hlt : k < len
          · obtain ⟨b', off, rfl, hb', _⟩ := H.out.cells (by omega)
            obtain ⟨a, hal, c1, c2, c3, f1, f2, f3, f4, f5⟩ := H.out.get hnx hlt
            have hzr := hnx.size
            have hal3 := HLL.out a hal
            clear hal
            have hbl := HQ.out.lt
            have F3 := Lib.hid (show ∀ i, d.blocks b i → w.heap.size ≤ i from fun i hi => by
              have := F1.out i ((HB.out.blocks b i).1 hi); omega)
            have BL := Lib.hid (show ¬ d.blocks b wr.heap.size from fun hi => by have := hbl _ hi; omega)
            clear hbl
            by_cases o4 : a.op = 4
            · have e1 : (a.op == 1) = false := by rw [beq_eq_false_iff_ne]; omega
              have e3 : (a.op == 3) = false := by rw [beq_eq_false_iff_ne]; omega
              have e4 : (a.op == 4) = true := by rw [beq_iff_eq]; omega
              clear o4
              obtain ⟨P', hP'⟩ : ∃ x, x = P ++ a.text := ⟨_, rfl⟩
              have hPz : P'.size = P.size + a.text.size := by rw [hP', ByteArray.size_append]
              have hadd := fun (W : World) => run_string_add_sum (P := Try.prog) (w := W) P a.text (by omega)
              have hjoin : P ++ a.text = P' := hP'.symm
              obtain ⟨d', hd'⟩ : ∃ d', d' = LD.fill { d with more := d.more ++ a.text } := ⟨_, rfl⟩
              have HD := Lib.hid hd'
              have hor' : OrdL d' P' T G := ⟨by rw [hP', hd', LD.fill_out, data_append, HO.out.w]; simp only [data_append, List.append_assoc], by rw [hd']; exact HO.out.g, by rw [hd']; exact HO.out.e, by rw [hd']; exact HO.out.s⟩
              have hsb' : SameB d d' := by rw [hd']; exact ⟨rfl, rfl, rfl, rfl, rfl⟩
              clear hP' hd'
              go_wp2_with fail
              refine (write_at (HQ.out.far (P := fun _ => False) ((Touch.refl _ _).alloc _) (fun _ _ => id)) a.text (by omega) HO.out.s d' HD.out).mono ?_
              rintro e w3 ⟨rfl, l3, t3⟩
              have cw2 : w3.cell? ⟨wr.heap.size, 2, none⟩ = some (.string a.text) := t3.cell (by exact BL.out) ((Blk.new _ _ _).cell 2)
              have b3 : Below w.heap.size w w3 := (hnx.alloc hzr _).trans (t3.below (fun i _ h => by have := F3.out i h; omega) (by simp; omega))
              have L3 := Lib.hid l3
              have B3 := Lib.hid b3
              have OR3 := Lib.hid hor'
              have SB3 := Lib.hid hsb'
              have hPk : P'.size ≤ 300 * (k + 1) := by omega
              have hGk : G.size ≤ 300 * (k + 1) := by omega
              clear t3 b3 l3 hor' hsb'
              go_wp2_with fail
              obtain ⟨x, z, hxl, hsum, hx3⟩ := OR3.out.left
              have HXL := Lib.hid hxl
              have hxm : x.size ≤ m := by have h1 := L3.out.inq.le; rw [← hxl, bsize, SB3.out.2.2.2.2, hmd] at h1; exact h1
              have hsub : (G.size : Int) - (x.size : Int) = (z : Int) := by omega
              have hg1 : decide ((G.size : Int) < (x.size : Int)) = false := by rw [decide_eq_false_iff_not]; omega
              have hg2 : decide ((m : Int) < (x.size : Int)) = false := by rw [decide_eq_false_iff_not]; omega
              have hg3 : (z : Int) ≤ (G.size : Int) := by omega
              have hg4 : x.size ≤ G.size := by omega
              have hgb : G.size ≤ 18000 := by omega
              clear hxl hsum
              go_wp2_with fail
              refine (left_any L3.out x HXL.out).mono ?_
              rintro e w' ⟨rfl, n, rfl⟩
              go_wp2_with fail
              go_roundw
              case rel => exact ⟨k + 1, d', P', T, G, by omega, by go_num, rfl, rfl, rfl, hPk, hGk, OR3.out.sum, OR3.out, L3.out.far (P := fun _ => False) ((Touch.refl _ _).drewN _) (fun _ _ => id), HB.out.trans SB3.out, B3.out.trans ⟨rfl, rfl, rfl, Nat.le_refl _, fun _ _ => rfl⟩⟩
              case measure => simp [intOf]; omega
            by_cases o3 : a.op = 3
            · have e1 : (a.op == 1) = false := by rw [beq_eq_false_iff_ne]; omega
              have e3 : (a.op == 3) = true := by rw [beq_iff_eq]; omega
              clear o3 o4
              obtain ⟨d', hd'⟩ : ∃ d' : LD, d' = { d with I := d.I.drop a.n.toNat } := ⟨_, rfl⟩
              have hor' : OrdL d' P T G := by
                obtain ⟨pre, hp⟩ := HO.out.g
                rw [hd']
                exact ⟨HO.out.w, ⟨pre ++ d.I.take a.n.toNat, by rw [hp, List.append_assoc, List.take_append_drop]⟩, HO.out.e, HO.out.s⟩
              have hsb' : SameB d d' := by rw [hd']; exact ⟨rfl, rfl, rfl, rfl, rfl⟩
              obtain ⟨y, hy⟩ : ∃ y : ByteArray, y = ⟨d.I.toArray⟩ := ⟨_, rfl⟩
              have hyl : y.data.toList = d.I := by rw [hy]
              have hory : OrdL d' P T y := by
                rw [hd']
                exact ⟨HO.out.w, ⟨d.I.take a.n.toNat, by rw [hyl, List.take_append_drop]⟩, HO.out.e, HO.out.s⟩
              have hym : y.size ≤ m := by have h1 := HQ.out.inq.le; rw [← hyl, bsize, hmd] at h1; exact h1
              obtain ⟨x, z1, hx1, hsum1, hx31⟩ := hory.left
              have HX1 := Lib.hid hx1
              have HYL := Lib.hid hyl
              have HD := Lib.hid hd'
              have hsub1 : (y.size : Int) - (x.size : Int) = (z1 : Int) := by omega
              have hg11 : decide ((y.size : Int) < (x.size : Int)) = false := by rw [decide_eq_false_iff_not]; omega
              have hg31 : (z1 : Int) ≤ (y.size : Int) := by omega
              have hg41 : x.size ≤ y.size := by omega
              clear hy hory hx1 hyl hsum1 hd'
              go_wp2_with fail
              refine (left_any (HQ.out.far (P := fun _ => False) ((Touch.refl _ _).alloc _) (fun _ _ => id)) y HYL.out).mono ?_
              rintro e w' ⟨rfl, n1, rfl⟩
              go_wp2_with fail
              obtain ⟨W1, hW1⟩ : ∃ W1, W1 = World.drewN (wr.alloc (.cells #[.int .i64 a.op, .int .i64 a.n, .string a.text] 64)) n1 := ⟨_, rfl⟩
              rw [← hW1]
              have l1 : IsL W1 b d := by rw [hW1]; exact HQ.out.far (P := fun _ => False) (((Touch.refl _ _).alloc _).drewN _) (fun _ _ => id)
              have b1 : Below w.heap.size w W1 := by rw [hW1]; exact (hnx.alloc hzr _).trans ⟨rfl, rfl, rfl, Nat.le_refl _, fun _ _ => rfl⟩
              have L0 := Lib.hid l1
              have B0 := Lib.hid b1
              clear l1 b1 hW1
              refine (use_any L0.out a.n f4).mono ?_
              rintro e w3 ⟨rfl, l3, t3⟩
              rw [← HD.out] at l3
              have b3 : Below w.heap.size w w3 := B0.out.trans (t3.below (fun i _ h => by have := F3.out i h; omega) B0.out.size)
              have L4 := Lib.hid l3
              have B4 := Lib.hid b3
              have OR3 := Lib.hid hor'
              have SB3 := Lib.hid hsb'
              have hPk : P.size ≤ 300 * (k + 1) := by omega
              have hGk : G.size ≤ 300 * (k + 1) := by omega
              clear t3 b3 l3 hor' hsb'
              go_wp2_with fail
              refine (left_any L4.out x HX1.out).mono ?_
              rintro e w5 ⟨rfl, n2, hw5⟩
              have L3 := Lib.hid (show IsL w5 b d' from hw5 ▸ L4.out.far (P := fun _ => False) ((Touch.refl _ _).drewN _) (fun _ _ => id))
              have b5 : Below w.heap.size w w5 := hw5 ▸ B4.out.trans ⟨rfl, rfl, rfl, Nat.le_refl _, fun _ _ => rfl⟩
              have B3 := Lib.hid b5
              clear b5 hw5
              go_wp2_with fail
              clear hsub1 hg11 hg31 hg41 hx31 hym
              obtain ⟨v, z, hxl, hsum, hx3⟩ := OR3.out.left
              have HXL := Lib.hid hxl
              have hxm : v.size ≤ m := by have h1 := L3.out.inq.le; rw [← hxl, bsize, SB3.out.2.2.2.2, hmd] at h1; exact h1
              have hsub : (G.size : Int) - (v.size : Int) = (z : Int) := by omega
              have hg1 : decide ((G.size : Int) < (v.size : Int)) = false := by rw [decide_eq_false_iff_not]; omega
              have hg2 : decide ((m : Int) < (v.size : Int)) = false := by rw [decide_eq_false_iff_not]; omega
              have hg3 : (z : Int) ≤ (G.size : Int) := by omega
              have hg4 : v.size ≤ G.size := by omega
              have hgb : G.size ≤ 18000 := by omega
              clear hxl hsum
              go_wp2_with fail
              refine (left_any L3.out v HXL.out).mono ?_
              rintro e w' ⟨rfl, n, rfl⟩
              go_wp2_with fail
              go_roundw
              case rel => exact ⟨k + 1, d', P, T, G, by omega, by go_num, rfl, rfl, rfl, hPk, hGk, OR3.out.sum, OR3.out, L3.out.far (P := fun _ => False) ((Touch.refl _ _).drewN _) (fun _ _ => id), HB.out.trans SB3.out, B3.out.trans ⟨rfl, rfl, rfl, Nat.le_refl _, fun _ _ => rfl⟩⟩
              case measure => simp [intOf]; omega
            by_cases o1 : a.op = 1
            · have e1 : (a.op == 1) = true := by rw [beq_iff_eq]; exact o1
              clear o1 o3 o4
              obtain ⟨K, hK⟩ : ∃ K, K = min a.text.size (d.most - d.I.length) := ⟨_, rfl⟩
              obtain ⟨KI, hKI⟩ : ∃ KI : Int, KI = K := ⟨_, rfl⟩
              have hKN : KI.toNat = K := by omega
              have hK1 : KI ≤ a.text.size := by omega
              have hK0 : 0 ≤ KI := by omega
              obtain ⟨G', hG'⟩ : ∃ x, x = G ++ a.text.extract 0 KI.toNat := ⟨_, rfl⟩
              have hGz : G'.size = G.size + KI.toNat := by rw [hG', ByteArray.size_append, ByteArray.size_extract]; omega
              obtain ⟨d', hd'⟩ : ∃ d' : LD, d' = { d with I := d.I ++ a.text.data.toList.take (d.most - d.I.length) } := ⟨_, rfl⟩
              have hor' : OrdL d' P T G' := by
                obtain ⟨pre, hp⟩ := HO.out.g
                rw [hd', hG']
                refine ⟨HO.out.w, ⟨pre, ?_⟩, HO.out.e, HO.out.s⟩
                rw [data_append, hp, data_extract, List.append_assoc, List.drop_zero, Nat.sub_zero]
                congr 2
                rw [List.take_eq_take_iff, bsize]
                omega
              have hsb' : SameB d d' := by rw [hd']; exact ⟨rfl, rfl, rfl, rfl, rfl⟩
              have hadd := fun (W : World) => run_string_add_sum (P := Try.prog) (w := W) G (a.text.extract 0 KI.toNat) (by rw [ByteArray.size_extract]; omega)
              have hjoin : G ++ a.text.extract 0 KI.toNat = G' := hG'.symm
              have HK := Lib.hid (show KI = (min a.text.size (d.most - d.I.length) : Nat) by rw [hKI, hK])
              have HD := Lib.hid hd'
              have OR3 := Lib.hid hor'
              have SB3 := Lib.hid hsb'
              have hPk : P.size ≤ 300 * (k + 1) := by omega
              have hGk : G'.size ≤ 300 * (k + 1) := by omega
              clear hKI hKN hGz
              clear hK hG' hd' hor' hsb'
              go_wp2_with fail
              by_cases hkp : 0 < KI
              · obtain ⟨W, hW⟩ : ∃ W, W = wr.alloc (.cells #[.int .i64 a.op, .int .i64 a.n, .string a.text] 64) := ⟨_, rfl⟩
                rw [← hW]
                have hcW2 : W.cell? ⟨wr.heap.size, 2, none⟩ = some (.string a.text) := by rw [hW]; exact (Blk.new _ _ _).cell 2
                have LW := Lib.hid (show IsL W.drew b d by rw [hW]; exact HQ.out.far (P := fun _ => False) ((Touch.refl _ _).alloc _).drew (fun _ _ => id))
                have BW2 := Lib.hid (show Below w.heap.size w W.drew by rw [hW]; exact (hnx.alloc hzr _).drew)
                clear hW
                have hsl := fun (W : World) => run_slice_string_h (P := Try.prog) W 9 a.text Try.underlying9 .i64 KI (by omega) (by omega)
                have hK2 : ¬ ((a.text.size : Int) < KI) := by omega
                refine wp_region_noPanic ?_
                refine wp_region_held (S := (fun w' => w'.cell? ⟨wr.heap.size, 2, none⟩ = some (.string a.text))) (by kernel_rfl) ?_
                have hS0 : (fun w' : World => w'.cell? ⟨wr.heap.size, 2, none⟩ = some (.string a.text)) { W with drawn := W.drawn + 1 } := hcW2
                refine wpAnyH_take (i := 0) (v := ?v0a) rfl (by kernel_rfl) (by kernel_rfl) (by kernel_rfl) (fun _ _ _ h => h) (Or.inl ⟨by rfl, ?hy0a⟩) hS0 ?rest0a
                case hy0a => (intro w hSw; (try dsimp only at hSw); go_simp; try with_reducible rfl)
                (try simp only [Act.put, List.setIfInBounds_toArray, List.set_cons_zero, List.set_cons_succ])
                refine wpAnyH_take (i := 1) (v := ?v1a) rfl (by kernel_rfl) (by kernel_rfl) (by kernel_rfl) (fun _ _ _ h => h) (Or.inl ⟨by rfl, ?hy1a⟩) hS0 ?rest1a
                case hy1a => (intro w hSw; (try dsimp only at hSw); go_simp; try with_reducible rfl)
                (try simp only [Act.put, List.setIfInBounds_toArray, List.set_cons_zero, List.set_cons_succ])
                refine wpAnyH_take (i := 2) (v := ?v2a) rfl (by kernel_rfl) (by kernel_rfl) (by kernel_rfl) (fun _ _ _ h => h) (Or.inl ⟨by rfl, ?hy2a⟩) hS0 ?rest2a
                case hy2a => (intro w hSw; (try dsimp only at hSw); go_simp; try with_reducible rfl)
                (try simp only [Act.put, List.setIfInBounds_toArray, List.set_cons_zero, List.set_cons_succ])
                refine wpAnyH_take (i := 3) (v := ?v3a) rfl (by kernel_rfl) (by kernel_rfl) (by kernel_rfl) (fun _ _ _ h => h) (Or.inl ⟨by rfl, ?hy3a⟩) hS0 ?rest3a
                case hy3a => (intro w hSw; (try dsimp only at hSw); go_simp; try with_reducible rfl)
                (try simp only [Act.put, List.setIfInBounds_toArray, List.set_cons_zero, List.set_cons_succ])
                refine wpAnyH_take (i := 4) (v := ?v4a) rfl (by kernel_rfl) (by kernel_rfl) (by kernel_rfl) (fun _ _ _ h => h) (Or.inl ⟨by rfl, ?hy4a⟩) hS0 ?rest4a
                case hy4a => (intro w hSw; (try dsimp only at hSw); go_simp; try with_reducible rfl)
                (try simp only [Act.put, List.setIfInBounds_toArray, List.set_cons_zero, List.set_cons_succ])
                refine wpAnyH_take (i := 5) (v := ?v5a) rfl (by kernel_rfl) (by kernel_rfl) (by kernel_rfl) (fun _ _ _ h => h) (Or.inl ⟨by rfl, ?hy5a⟩) hS0 ?rest5a
                case hy5a => (intro w hSw; (try dsimp only at hSw); go_simp; try with_reducible rfl)
                (try simp only [Act.put, List.setIfInBounds_toArray, List.set_cons_zero, List.set_cons_succ])
                refine wpAnyH_take (i := 7) (v := ?v7a) rfl (by kernel_rfl) (by kernel_rfl) (by kernel_rfl) (fun _ _ _ h => h) (Or.inl ⟨by rfl, ?hy7a⟩) hS0 ?rest7a
                case hy7a => (intro w hSw; (try dsimp only at hSw); go_simp; try with_reducible rfl)
                (try simp only [Act.put, List.setIfInBounds_toArray, List.set_cons_zero, List.set_cons_succ])
                refine wpAnyH_take (i := 8) (v := ?v8a) rfl (by kernel_rfl) (by kernel_rfl) (by kernel_rfl) (fun _ _ _ h => h) (Or.inl ⟨by rfl, ?hy8a⟩) hS0 ?rest8a
                case hy8a => (intro w hSw; (try dsimp only at hSw); go_simp; try with_reducible rfl)
                (try simp only [Act.put, List.setIfInBounds_toArray, List.set_cons_zero, List.set_cons_succ])
                refine wpAnyH_take (i := 9) (v := ?v9a) rfl (by kernel_rfl) (by kernel_rfl) (by kernel_rfl) (fun _ _ _ h => h) (Or.inl ⟨by rfl, ?hy9a⟩) hS0 ?rest9a
                case hy9a => (intro w hSw; (try dsimp only at hSw); go_simp; try with_reducible rfl)
                (try simp only [Act.put, List.setIfInBounds_toArray, List.set_cons_zero, List.set_cons_succ])
                refine wpAnyH_ready (rs := [6]) (by kernel_rfl) (by simp) ?_
                refine AllReadyH.cons (i := 6) rfl (fun K hK => ?_) AllReadyH.nil
                go_simp
                refine (give_at LW.out a.text f5 HO.out.e HO.out.s KI HK.out d' HD.out).mono ?_
                rintro e w3 ⟨rfl, l3, t3⟩
                have hS3 : w3.cell? ⟨wr.heap.size, 2, none⟩ = some (.string a.text) := Touch.cell t3 BL.out hcW2
                refine hK _ _ hS3 (fun _ => ?_)
                clear hK K
                refine wpAnyH_ready (rs := [10]) (by kernel_rfl) (by simp) ?_
                refine AllReadyH.cons (i := 10) rfl (fun K hK => ?_) AllReadyH.nil
                go_simp
                (try refine hK _ _ hS3 (fun _ => ?_))
                clear hK K
                (try simp only [Act.put, List.setIfInBounds_toArray, List.set_cons_zero, List.set_cons_succ])
                refine wpAnyH_ready (rs := [11]) (by kernel_rfl) (by simp) ?_
                refine AllReadyH.cons (i := 11) rfl (fun K hK => ?_) AllReadyH.nil
                go_simp
                (try refine hK _ _ hS3 (fun _ => ?_))
                clear hK K
                (try simp only [Act.put, List.setIfInBounds_toArray, List.set_cons_zero, List.set_cons_succ])
                refine wpAnyH_ready (rs := [12]) (by kernel_rfl) (by simp) ?_
                refine AllReadyH.cons (i := 12) rfl (fun K hK => ?_) AllReadyH.nil
                go_simp
                (try refine hK _ _ hS3 (fun _ => ?_))
                clear hK K
                (try simp only [Act.put, List.setIfInBounds_toArray, List.set_cons_zero, List.set_cons_succ])
                refine wpAnyH_ready (rs := [13]) (by kernel_rfl) (by simp) ?_
                refine AllReadyH.cons (i := 13) rfl (fun K hK => ?_) AllReadyH.nil
                go_simp
                (try refine hK _ _ hS3 (fun _ => ?_))
                clear hK K
                (try simp only [Act.put, List.setIfInBounds_toArray, List.set_cons_zero, List.set_cons_succ])
                refine wpAnyH_ready (rs := [14]) (by kernel_rfl) (by simp) ?_
                refine AllReadyH.cons (i := 14) rfl (fun K hK => ?_) AllReadyH.nil
                go_simp
                (try refine hK _ _ hS3 (fun _ => ?_))
                clear hK K
                (try simp only [Act.put, List.setIfInBounds_toArray, List.set_cons_zero, List.set_cons_succ])
                refine wpAnyH_done (by kernel_rfl) ?_ _
                refine NoPanic.normal ?_
                have b3 : Below w.heap.size w w3 := BW2.out.trans (t3.below (fun i _ h => by have := F3.out i h; omega) BW2.out.size)
                have L3 := Lib.hid l3
                have B3 := Lib.hid b3
                clear t3 b3 l3
                go_wp2_with fail
                obtain ⟨x, z, hxl, hsum, hx3⟩ := OR3.out.left
                have HXL := Lib.hid hxl
                have hxm : x.size ≤ m := by have h1 := L3.out.inq.le; rw [← hxl, bsize, SB3.out.2.2.2.2, hmd] at h1; exact h1
                have hsub : (G'.size : Int) - (x.size : Int) = (z : Int) := by omega
                have hg1 : decide ((G'.size : Int) < (x.size : Int)) = false := by rw [decide_eq_false_iff_not]; omega
                have hg2 : decide ((m : Int) < (x.size : Int)) = false := by rw [decide_eq_false_iff_not]; omega
                have hg3 : (z : Int) ≤ (G'.size : Int) := by omega
                have hg4 : x.size ≤ G'.size := by omega
                have hgb : G'.size ≤ 18000 := by omega
                clear hxl hsum
                go_wp2_with fail
                refine (left_any L3.out x HXL.out).mono ?_
                rintro e w' ⟨rfl, n, rfl⟩
                go_wp2_with fail
                go_roundw
                case rel => exact ⟨k + 1, d', P, T, G', by omega, by go_num, rfl, rfl, rfl, hPk, hGk, OR3.out.sum, OR3.out, L3.out.far (P := fun _ => False) ((Touch.refl _ _).drewN _) (fun _ _ => id), HB.out.trans SB3.out, B3.out.trans ⟨rfl, rfl, rfl, Nat.le_refl _, fun _ _ => rfl⟩⟩
                case measure => simp [intOf]; omega
              · obtain rfl : KI = 0 := by omega
                have hx0 : a.text.extract 0 0 = ByteArray.empty := bytes_ext (by rw [data_extract]; rfl)
                have hjz : G ++ ByteArray.empty = G' := by rw [← hjoin]; congr 1; exact hx0.symm
                have hadz := fun (W : World) => run_string_add_sum (P := Try.prog) (w := W) G ByteArray.empty (by show G.size + 0 ≤ _; omega)
                clear hjoin hadd hK1 hK0
                obtain ⟨W, hW⟩ : ∃ W, W = wr.alloc (.cells #[.int .i64 a.op, .int .i64 a.n, .string a.text] 64) := ⟨_, rfl⟩
                rw [← hW]
                have hcW2 : W.cell? ⟨wr.heap.size, 2, none⟩ = some (.string a.text) := by rw [hW]; exact (Blk.new _ _ _).cell 2
                have LW := Lib.hid (show IsL W.drew b d by rw [hW]; exact HQ.out.far (P := fun _ => False) ((Touch.refl _ _).alloc _).drew (fun _ _ => id))
                have BW2 := Lib.hid (show Below w.heap.size w W.drew by rw [hW]; exact (hnx.alloc hzr _).drew)
                clear hW
                have hK2 : ¬ ((a.text.size : Int) < 0) := by omega
                have hsl := fun (W : World) => (run_slice_string_h (P := Try.prog) W 9 a.text Try.underlying9 .i64 0 (by omega) (by omega)).trans (by rw [show (0 : Int).toNat = 0 from rfl, hx0])
                refine wp_region_noPanic ?_
                refine wp_region_held (S := (fun w' => w'.cell? ⟨wr.heap.size, 2, none⟩ = some (.string a.text))) (by kernel_rfl) ?_
                have hS0 : (fun w' : World => w'.cell? ⟨wr.heap.size, 2, none⟩ = some (.string a.text)) { W with drawn := W.drawn + 1 } := hcW2
                refine wpAnyH_take (i := 0) (v := ?v0b) rfl (by kernel_rfl) (by kernel_rfl) (by kernel_rfl) (fun _ _ _ h => h) (Or.inl ⟨by rfl, ?hy0b⟩) hS0 ?rest0b
                case hy0b => (intro w hSw; (try dsimp only at hSw); go_simp; try with_reducible rfl)
                (try simp only [Act.put, List.setIfInBounds_toArray, List.set_cons_zero, List.set_cons_succ])
                refine wpAnyH_take (i := 1) (v := ?v1b) rfl (by kernel_rfl) (by kernel_rfl) (by kernel_rfl) (fun _ _ _ h => h) (Or.inl ⟨by rfl, ?hy1b⟩) hS0 ?rest1b
                case hy1b => (intro w hSw; (try dsimp only at hSw); go_simp; try with_reducible rfl)
                (try simp only [Act.put, List.setIfInBounds_toArray, List.set_cons_zero, List.set_cons_succ])
                refine wpAnyH_take (i := 2) (v := ?v2b) rfl (by kernel_rfl) (by kernel_rfl) (by kernel_rfl) (fun _ _ _ h => h) (Or.inl ⟨by rfl, ?hy2b⟩) hS0 ?rest2b
                case hy2b => (intro w hSw; (try dsimp only at hSw); go_simp; try with_reducible rfl)
                (try simp only [Act.put, List.setIfInBounds_toArray, List.set_cons_zero, List.set_cons_succ])
                refine wpAnyH_take (i := 3) (v := ?v3b) rfl (by kernel_rfl) (by kernel_rfl) (by kernel_rfl) (fun _ _ _ h => h) (Or.inl ⟨by rfl, ?hy3b⟩) hS0 ?rest3b
                case hy3b => (intro w hSw; (try dsimp only at hSw); go_simp; try with_reducible rfl)
                (try simp only [Act.put, List.setIfInBounds_toArray, List.set_cons_zero, List.set_cons_succ])
                refine wpAnyH_take (i := 4) (v := ?v4b) rfl (by kernel_rfl) (by kernel_rfl) (by kernel_rfl) (fun _ _ _ h => h) (Or.inl ⟨by rfl, ?hy4b⟩) hS0 ?rest4b
                case hy4b => (intro w hSw; (try dsimp only at hSw); go_simp; try with_reducible rfl)
                (try simp only [Act.put, List.setIfInBounds_toArray, List.set_cons_zero, List.set_cons_succ])
                refine wpAnyH_take (i := 5) (v := ?v5b) rfl (by kernel_rfl) (by kernel_rfl) (by kernel_rfl) (fun _ _ _ h => h) (Or.inl ⟨by rfl, ?hy5b⟩) hS0 ?rest5b
                case hy5b => (intro w hSw; (try dsimp only at hSw); go_simp; try with_reducible rfl)
                (try simp only [Act.put, List.setIfInBounds_toArray, List.set_cons_zero, List.set_cons_succ])
                refine wpAnyH_take (i := 7) (v := ?v7b) rfl (by kernel_rfl) (by kernel_rfl) (by kernel_rfl) (fun _ _ _ h => h) (Or.inl ⟨by rfl, ?hy7b⟩) hS0 ?rest7b
                case hy7b => (intro w hSw; (try dsimp only at hSw); go_simp; try with_reducible rfl)
                (try simp only [Act.put, List.setIfInBounds_toArray, List.set_cons_zero, List.set_cons_succ])
                refine wpAnyH_take (i := 8) (v := ?v8b) rfl (by kernel_rfl) (by kernel_rfl) (by kernel_rfl) (fun _ _ _ h => h) (Or.inl ⟨by rfl, ?hy8b⟩) hS0 ?rest8b
                case hy8b => (intro w hSw; (try dsimp only at hSw); go_simp; try with_reducible rfl)
                (try simp only [Act.put, List.setIfInBounds_toArray, List.set_cons_zero, List.set_cons_succ])
                refine wpAnyH_take (i := 9) (v := ?v9b) rfl (by kernel_rfl) (by kernel_rfl) (by kernel_rfl) (fun _ _ _ h => h) (Or.inl ⟨by rfl, ?hy9b⟩) hS0 ?rest9b
                case hy9b => (intro w hSw; (try dsimp only at hSw); go_simp; try with_reducible rfl)
                (try simp only [Act.put, List.setIfInBounds_toArray, List.set_cons_zero, List.set_cons_succ])
                refine wpAnyH_ready (rs := [6]) (by kernel_rfl) (by simp) ?_
                refine AllReadyH.cons (i := 6) rfl (fun K hK => ?_) AllReadyH.nil
                go_simp
                refine (give_at LW.out a.text f5 HO.out.e HO.out.s 0 HK.out d' HD.out).mono ?_
                rintro e w3 ⟨rfl, l3, t3⟩
                have hS3 : w3.cell? ⟨wr.heap.size, 2, none⟩ = some (.string a.text) := Touch.cell t3 BL.out hcW2
                refine hK _ _ hS3 (fun _ => ?_)
                clear hK K
                refine wpAnyH_ready (rs := [10]) (by kernel_rfl) (by simp) ?_
                refine AllReadyH.cons (i := 10) rfl (fun K hK => ?_) AllReadyH.nil
                go_simp
                (try refine hK _ _ hS3 (fun _ => ?_))
                clear hK K
                (try simp only [Act.put, List.setIfInBounds_toArray, List.set_cons_zero, List.set_cons_succ])
                refine wpAnyH_ready (rs := [11]) (by kernel_rfl) (by simp) ?_
                refine AllReadyH.cons (i := 11) rfl (fun K hK => ?_) AllReadyH.nil
                go_simp
                (try refine hK _ _ hS3 (fun _ => ?_))
                clear hK K
                (try simp only [Act.put, List.setIfInBounds_toArray, List.set_cons_zero, List.set_cons_succ])
                refine wpAnyH_ready (rs := [12]) (by kernel_rfl) (by simp) ?_
                refine AllReadyH.cons (i := 12) rfl (fun K hK => ?_) AllReadyH.nil
                go_simp
                (try refine hK _ _ hS3 (fun _ => ?_))
                clear hK K
                (try simp only [Act.put, List.setIfInBounds_toArray, List.set_cons_zero, List.set_cons_succ])
                refine wpAnyH_ready (rs := [13]) (by kernel_rfl) (by simp) ?_
                refine AllReadyH.cons (i := 13) rfl (fun K hK => ?_) AllReadyH.nil
                go_simp
                (try refine hK _ _ hS3 (fun _ => ?_))
                clear hK K
                (try simp only [Act.put, List.setIfInBounds_toArray, List.set_cons_zero, List.set_cons_succ])
                refine wpAnyH_ready (rs := [14]) (by kernel_rfl) (by simp) ?_
                refine AllReadyH.cons (i := 14) rfl (fun K hK => ?_) AllReadyH.nil
                go_simp
                (try refine hK _ _ hS3 (fun _ => ?_))
                clear hK K
                (try simp only [Act.put, List.setIfInBounds_toArray, List.set_cons_zero, List.set_cons_succ])
                refine wpAnyH_done (by kernel_rfl) ?_ _
                refine NoPanic.normal ?_
                have b3 : Below w.heap.size w w3 := BW2.out.trans (t3.below (fun i _ h => by have := F3.out i h; omega) BW2.out.size)
                have L3 := Lib.hid l3
                have B3 := Lib.hid b3
                clear t3 b3 l3
                go_wp2_with fail
                obtain ⟨x, z, hxl, hsum, hx3⟩ := OR3.out.left
                have HXL := Lib.hid hxl
                have hxm : x.size ≤ m := by have h1 := L3.out.inq.le; rw [← hxl, bsize, SB3.out.2.2.2.2, hmd] at h1; exact h1
                have hsub : (G'.size : Int) - (x.size : Int) = (z : Int) := by omega
                have hg1 : decide ((G'.size : Int) < (x.size : Int)) = false := by rw [decide_eq_false_iff_not]; omega
                have hg2 : decide ((m : Int) < (x.size : Int)) = false := by rw [decide_eq_false_iff_not]; omega
                have hg3 : (z : Int) ≤ (G'.size : Int) := by omega
                have hg4 : x.size ≤ G'.size := by omega
                have hgb : G'.size ≤ 18000 := by omega
                clear hxl hsum
                go_wp2_with fail
                refine (left_any L3.out x HXL.out).mono ?_
                rintro e w' ⟨rfl, n, rfl⟩
                go_wp2_with fail
                go_roundw
                case rel => exact ⟨k + 1, d', P, T, G', by omega, by go_num, rfl, rfl, rfl, hPk, hGk, OR3.out.sum, OR3.out, L3.out.far (P := fun _ => False) ((Touch.refl _ _).drewN _) (fun _ _ => id), HB.out.trans SB3.out, B3.out.trans ⟨rfl, rfl, rfl, Nat.le_refl _, fun _ _ => rfl⟩⟩
                case measure => simp [intOf]; omega
            · have e1 : (a.op == 1) = false := by rw [beq_eq_false_iff_ne]; exact o1
              have e3 : (a.op == 3) = false := by rw [beq_eq_false_iff_ne]; exact o3
              have e4 : (a.op == 4) = false := by rw [beq_eq_false_iff_ne]; exact o4
              clear o1 o3 o4
              obtain ⟨y, hy⟩ : ∃ y : ByteArray, y = ⟨((d.O ++ d.more.data.toList).take a.n.toNat).toArray⟩ := ⟨_, rfl⟩
              have hyl : y.data.toList = (d.O ++ d.more.data.toList).take a.n.toNat := by rw [hy]
              have hys : y.size ≤ d.O.length + d.more.size := by rw [← bsize, hyl, List.length_take, List.length_append, bsize]; omega
              obtain ⟨T', hT'⟩ : ∃ x, x = T ++ y := ⟨_, rfl⟩
              have hadd := fun (W : World) => run_string_add_sum (P := Try.prog) (w := W) T y (by omega)
              have hjoin : T ++ y = T' := hT'.symm
              obtain ⟨d', hd'⟩ : ∃ d', d' = (d.took a.n).fill := ⟨_, rfl⟩
              have HD := Lib.hid hd'
              have hor' : OrdL d' P T' G := ⟨by rw [hT', hd', LD.fill_out, LD.took_out, data_append, HO.out.w, hyl, List.append_assoc, List.take_append_drop], by rw [hd']; exact HO.out.g, by rw [hd']; exact HO.out.e, by rw [hd']; exact HO.out.s⟩
              have hsb' : SameB d d' := by rw [hd']; exact ⟨rfl, rfl, rfl, rfl, rfl⟩
              have HYL := Lib.hid hyl
              have hTl : T.size + y.size ≤ P.size := by omega
              clear hT' hd' hy hyl hys
              go_wp2_with fail
              refine (ltake_at (HQ.out.far (P := fun _ => False) ((Touch.refl _ _).alloc _) (fun _ _ => id)) a.n f4 f3 (by omega) y HYL.out d' HD.out).mono ?_
              rintro e w3 ⟨rfl, l3, t3⟩
              have b3 : Below w.heap.size w w3 := (hnx.alloc hzr _).trans (t3.below (fun i _ h => by have := F3.out i h; omega) (by simp; omega))
              have L3 := Lib.hid l3
              have B3 := Lib.hid b3
              have OR3 := Lib.hid hor'
              have SB3 := Lib.hid hsb'
              have hPk : P.size ≤ 300 * (k + 1) := by omega
              have hGk : G.size ≤ 300 * (k + 1) := by omega
              clear t3 b3 l3 hor' hsb'
              go_wp2_with fail
              obtain ⟨x, z, hxl, hsum, hx3⟩ := OR3.out.left
              have HXL := Lib.hid hxl
              have hxm : x.size ≤ m := by have h1 := L3.out.inq.le; rw [← hxl, bsize, SB3.out.2.2.2.2, hmd] at h1; exact h1
              have hsub : (G.size : Int) - (x.size : Int) = (z : Int) := by omega
              have hg1 : decide ((G.size : Int) < (x.size : Int)) = false := by rw [decide_eq_false_iff_not]; omega
              have hg2 : decide ((m : Int) < (x.size : Int)) = false := by rw [decide_eq_false_iff_not]; omega
              have hg3 : (z : Int) ≤ (G.size : Int) := by omega
              have hg4 : x.size ≤ G.size := by omega
              have hgb : G.size ≤ 18000 := by omega
              clear hxl hsum
              go_wp2_with fail
              refine (left_any L3.out x HXL.out).mono ?_
              rintro e w' ⟨rfl, n, rfl⟩
              go_wp2_with fail
              go_roundw
              case rel => exact ⟨k + 1, d', P, T', G, by omega, by go_num, rfl, rfl, rfl, hPk, hGk, OR3.out.sum, OR3.out, L3.out.far (P := fun _ => False) ((Touch.refl _ _).drewN _) (fun _ _ => id), HB.out.trans SB3.out, B3.out.trans ⟨rfl, rfl, rfl, Nat.le_refl _, fun _ _ => rfl⟩⟩
              case measure => simp [intOf]; omega
          · obtain ⟨x, hx⟩ : ∃ x : ByteArray, x = ⟨(d.O ++ d.more.data.toList).toArray⟩ := ⟨_, rfl⟩
            have hxl : x.data.toList = d.O ++ d.more.data.toList := by rw [hx]
            have hxs : x.size = d.O.length + d.more.size := by rw [← bsize, hxl, List.length_append, bsize]
            have hj2 : T ++ x = P := bytes_ext (by rw [data_append, HO.out.w, hxl])
            have HX := Lib.hid (show x.data.toList = (d.O ++ d.more.data.toList).take (P.size : Int).toNat by
              rw [hxl, List.take_of_length_le]
              rw [List.length_append, bsize]; omega)
            have hw0 : (d.took (P.size : Int)).fill.O.length + (d.took (P.size : Int)).fill.more.size = 0 := by
              have h1 := LD.took_out d (P.size : Int)
              rw [← LD.fill_out, List.drop_of_length_le (by rw [List.length_append, bsize]; omega)] at h1
              have h2 := congrArg List.length h1
              rw [List.length_append, bsize] at h2
              exact h2
            obtain ⟨d3, hd3⟩ : ∃ d3, d3 = (d.took (P.size : Int)).fill := ⟨_, rfl⟩
            rw [← hd3] at hw0
            have HD := Lib.hid hd3
            have hM3 : d3.more.size ≤ 4611686018427387903 := by omega
            have HW0 := Lib.hid (show (0 : Int) = (d3.O.length + d3.more.size : Nat) by omega)
            have HM3 := Lib.hid hM3
            have hTS2 : T.size + x.size ≤ 18000 := by omega
            have F3 := Lib.hid (show ∀ i, d.blocks b i → w.heap.size ≤ i from fun i hi => by
              have := F1.out i ((HB.out.blocks b i).1 hi); omega)
            clear hx hxs hd3 hxl hw0 hM3
            have hadd := fun (W : World) => run_string_add_sum (P := Try.prog) (w := W) T x (by omega)
            go_wp2_with fail
            refine (ltake_at HQ.out (P.size : Int) (by omega) (by omega) (by omega) x HX.out d3 HD.out).mono ?_
            rintro e w3 ⟨rfl, l3, t3⟩
            have b3 : Below w.heap.size w w3 := hnx.trans (t3.below (fun i _ h => by have := F3.out i h; omega) hnx.size)
            have L3 := Lib.hid l3
            have B3 := Lib.hid b3
            have z3 := b3.size
            clear t3 b3 l3
            go_wp2_with fail
            refine (waits_at L3.out HM3.out 0 HW0.out).mono ?_
            rintro e w' ⟨rfl, n, rfl⟩
            have b4 : Below w.heap.size w (w3.drewN n) := B3.out.trans ⟨rfl, rfl, rfl, Nat.le_refl _, fun _ _ => rfl⟩
            have B4 := Lib.hid b4
            clear b4
            go_wp2_with fail
            refine (llives _).mono ?_
            rintro e w' ⟨rfl, hb2⟩
            go_wp2_with fail
            go_ret
            exact ⟨rfl, B4.out.trans (hb2.mono B4.out.size)⟩
end Go.Proofs.Ytmkjkodblincbaa
