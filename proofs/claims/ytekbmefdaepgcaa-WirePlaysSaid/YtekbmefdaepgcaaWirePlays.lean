/- Package abutmentlaw42: few, lives, and WirePlays: its walk. -/
import Derived.Test.YtekbmefdaepgcaaDeskAct
import Derived.Test.YtekbmefdaepgcaaLinkLives
import Derived.Deep.RegionWith
namespace Go.Proofs.Ytekbmefdaepgcaa
open Go.RowKit
theorem wfew_any {w : World} {A : Option Addr} {len cap : Nat} {l : List GAct} (h : Acts w A len l) (hl : len ≤ 60) :
    Calls Try.prog 16 #[.slice A len cap] w fun e w' => e = .returned (.bool (l.all short)) ∧ Below w.heap.size w w' := by
  have H := Lib.hid h
  clear h
  rcases Nat.eq_zero_or_pos len with rfl | h0
  · have : l = [] := List.eq_nil_of_length_eq_zero H.out.length
    rw [this]
    go_enter Try.func16, Try.ntmps16
    go_wp2
    refine wp_loop_rounds 1 ?_
    rw [rounds_succ]
    go_wp2
    go_ret
    exact ⟨rfl, Below.refl _ _⟩
  obtain ⟨b, off, rfl, hb, hc⟩ := H.out.cells h0
  have HC := Lib.hid hc
  clear hc
  go_enter Try.func16, Try.ntmps16
  go_wp2_with fail
  go_loopw [10] (fun i wr => ∃ k : Nat, k ≤ len ∧ i = .int .i64 k ∧ (l.take k).all short = true ∧ Below w.heap.size w wr) (fun i _ => len - (intOf i).toNat)
  case atStart => exact ⟨0, Nat.zero_le _, rfl, rfl, Below.refl _ _⟩
  case round =>
    obtain ⟨k, hk, rfl, hall, hnx⟩ := hrel
    by_cases hlt : k < len
    · have hkl : k < l.length := by have := H.out.length; omega
      have hget := List.getElem?_eq_getElem hkl
      obtain ⟨c1, c2, c3⟩ := HC.out k _ hget
      have c1 := (bcell hnx _ _ hb).trans c1
      have c2 := (bcell hnx _ _ hb).trans c2
      have c3 := (bcell hnx _ _ hb).trans c3
      have hz := hnx.size
      have hall2 : (l.take (k + 1)).all short = short l[k] := by rw [List.take_succ_eq_append_getElem hkl, List.all_append, hall]; simp
      have hall3 : short l[k] = false → l.all short = false := fun hf => by
        rw [List.all_eq_false]
        exact ⟨l[k], List.getElem_mem hkl, by rw [hf]; simp⟩
      have HA := Lib.hid hall2
      have HA3 := Lib.hid hall3
      clear hall2 hall3 hget hall
      obtain ⟨a, ha⟩ : ∃ a, a = l[k] := ⟨_, rfl⟩
      rw [← ha] at c1 c2 c3 HA HA3
      clear ha
      by_cases hs : a.text.size ≤ 300
      · have hs2 : short a = true := decide_eq_true hs
        have HS := Lib.hid hs2
        clear hs2
        go_wp2
        go_roundw
        case rel => exact ⟨k + 1, by omega, by go_num, by rw [HA.out, HS.out], hnx.alloc (by omega) _⟩
        case measure => simp [intOf]; omega
      · have hs2 : short a = false := decide_eq_false hs
        have HS := Lib.hid hs2
        clear hs2
        go_wp2
        go_ret
        refine ⟨?_, hnx.alloc (by omega) _⟩
        rw [HA3.out HS.out]
        rfl
    · go_wp2
      go_ret
      refine ⟨?_, hnx⟩
      rw [← List.take_of_length_le (l := l) (i := k) (by have := H.out.length; omega), hall]
      rfl
theorem wfew_long {w : World} {A : Option Addr} {len cap : Nat} (hl : 60 < len) (hm : len ≤ 9223372036854775807) :
    Calls Try.prog 16 #[.slice A len cap] w fun e w' => e = .returned (.bool false) ∧ w = w' := by
  go_enter Try.func16, Try.ntmps16
  go_wp2
  go_ret
  exact ⟨rfl, rfl⟩
/-- What few answers, for any number of calls. -/
theorem wfew_all {w : World} {A : Option Addr} {len cap : Nat} {l : List GAct} (h : Acts w A len l) (hm : len ≤ 9223372036854775807) :
    Calls Try.prog 16 #[.slice A len cap] w fun e w' => e = .returned (.bool (decide (len ≤ 60) && l.all short)) ∧ Below w.heap.size w w' := by
  by_cases hl : len ≤ 60
  · refine (wfew_any h hl).mono ?_
    rintro e w' ⟨rfl, hb⟩
    exact ⟨by rw [decide_eq_true hl, Bool.true_and], hb⟩
  · refine (wfew_long (by omega) hm).mono ?_
    rintro e w' ⟨rfl, rfl⟩
    exact ⟨by rw [decide_eq_false hl, Bool.false_and], Below.refl _ _⟩

theorem clD {I : World → Prop} (hI : ∀ w n, I w → I (World.drewN w n)) {f : FuncId} {args : Array Value} {s : Cl I} {v : Value} (h : Calls Try.prog f args s.val fun e w' => e = .returned v ∧ ∃ m, s.val.drewN m = w') : Calls Try.prog f args s.val fun e w'' => e = .returned v ∧ ∃ s' : Cl I, w'' = s'.val :=
  Calls.cl_of (h.mono fun _ _ ⟨a, m, b⟩ => ⟨a, b ▸ hI _ m s.ok⟩)
theorem wdry_at {w : World} {b : Nat} {d : LD} (h : IsL w b d) (v : Bool) (hv : v = (d.ended && decide (d.I.length = 0))) : Calls Try.prog 24 #[.pointer (some ⟨b, 0, none⟩)] w fun e w' => e = .returned (.bool v) ∧ w = w' := by
  rw [hv]; exact dry_any h
set_option maxRecDepth 100000 in
set_option maxHeartbeats 2000000 in
theorem wlives (w : World) : Calls Try.prog 17 #[] w fun e w' => e = .returned (.bool true) ∧ Below w.heap.size w w' := by
  go_enter Try.func17, Try.ntmps17
  go_wp2_with fail
  refine (wnew_any _).mono ?_
  rintro e w1 ⟨rfl, k1, k2, b1, z1⟩
  have K1 := Lib.hid k1
  have K2 := Lib.hid k2
  have B1 := Lib.hid b1
  have Z1 := Lib.hid z1
  have z1' := b1.size
  clear k1 k2 b1 z1
  go_wp2_with fail
  refine (lnew_at 5 (by omega) _).mono ?_
  rintro e w2 ⟨b, bi, gi, bo, go, rfl, l2, f2, b2⟩
  have i2 : IsW w2 w2.heap.size (w.heap.size + 1) w.heap.size ⟨#[]⟩ 0 false [] := IsW.new (K1.out.call b2) (K2.out.call b2) (by have := b2.size; have := Z1.out; omega) (by have := b2.size; have := Z1.out; omega) (Nat.le_refl _)
  have n1 : ¬ (⟨bi, gi, bo, go, 5, [], [], ⟨#[]⟩, false, false⟩ : LD).blocks b (w.heap.size + 1) := fun h => by have := f2 _ h; have := Z1.out; omega
  have n2 : ¬ (⟨bi, gi, bo, go, 5, [], [], ⟨#[]⟩, false, false⟩ : LD).blocks b w.heap.size := fun h => by have := f2 _ h; have := Z1.out; omega
  have I2 := Lib.hid i2
  have L2 := Lib.hid l2
  have F2 := Lib.hid f2
  have B2 := Lib.hid b2
  have N1 := Lib.hid n1
  have N2 := Lib.hid n2
  clear i2 l2 f2 b2 n1 n2
  go_wp2_with fail
  refine (wsend_any I2.out ⟨#[97, 98, 99]⟩ ⟨#[97, 98, 99]⟩ (by decide) rfl).mono ?_
  rintro e w3 ⟨rfl, i3, t3⟩
  have l3 := L2.out.far t3 (fun i hi e => N2.out (e ▸ hi))
  have I3 := Lib.hid i3
  have L3 := Lib.hid l3
  have T3 := Lib.hid t3
  clear i3 l3 t3
  go_wp2_with fail
  refine (wread_any I3.out L3.out L2.out.lt N1.out N2.out (by decide) 2 2 rfl 2 rfl false rfl ⟨bi, gi, bo, go, 5, [97, 98], [], ⟨#[]⟩, false, false⟩ rfl).mono ?_
  rintro e w4 ⟨rfl, i4, l4, t4⟩
  have I4 := Lib.hid i4
  have L4 := Lib.hid l4
  have T4 := Lib.hid t4
  clear i4 l4 t4
  go_wp2_with fail
  refine (left_any L4.out ⟨#[97, 98]⟩ rfl).mono ?_
  rintro e w5 ⟨rfl, n5, rfl⟩
  go_wp2_with fail
  refine (wleft_any (I4.out.far (P := fun _ => False) ((Touch.refl _ _).drewN _) id id (fun _ _ => id)) (by decide) 1 rfl).mono ?_
  rintro e w6 ⟨rfl, n6, rfl⟩
  go_wp2_with fail
  refine (wdry_at (L4.out.far (P := fun _ => False) ((Touch.refl _ _).drewN (n5 + n6)) (fun _ _ => id)) false rfl).mono ?_
  rintro e w7 ⟨rfl, rfl⟩
  go_wp2_with fail
  go_ret
  have h1 : Below w.heap.size w w2 := B1.out.trans (B2.out.mono z1')
  have h2 : Below w.heap.size w w4 := h1.trans ((T3.out.mono (Q := fun i => i = w.heap.size ∨ (⟨bi, gi, bo, go, 5, [], [], ⟨#[]⟩, false, false⟩ : LD).blocks b i) fun _ _ h => .inl h).trans T4.out |>.below (fun i _ h => h.elim (fun e => by omega) (fun h => by have := F2.out i h; omega)) h1.size)
  exact ⟨rfl, h2.trans ⟨rfl, rfl, rfl, Nat.le_refl _, fun _ _ => rfl⟩⟩
theorem sent_keeps {w0 w w1 : World} {B db wb sb kb at_ : Nat} {S T Lf In Out : ByteArray} {E : Bool} {d : LD} (h : Desk w B db wb sb kb S at_ E T d Lf In Out) (hb : Below w0.heap.size w0 w) (r : IsW w1 B wb sb S at_ E T.data.toList) (t : Touch (fun i => Row w B i) w w1) (hB : w0.heap.size ≤ B) : Desk w1 B db wb sb kb S at_ E T d Lf In Out ∧ Below w0.heap.size w0 w1 :=
  ⟨⟨r, h.l.far t (fun i hi e => by have := h.hk i hi; have := e.1; omega), h.dk.touch t (fun e => by have := h.hd; have := e.1; omega), h.lf, h.i, h.o, h.hd, h.hk⟩, hb.trans (t.below (fun i _ e => by have := e.1; omega) hb.size)⟩
theorem SameB.blocks {d d' : LD} (h : SameB d d') (b i : Nat) : d'.blocks b i ↔ d.blocks b i := by
  obtain ⟨h1, h2, h3, h4, _⟩ := h
  unfold LD.blocks
  rw [h1, h2, h3, h4]
theorem SameB.trans {d d' d'' : LD} (h : SameB d d') (h2 : SameB d' d'') : SameB d d'' :=
  ⟨h2.1.trans h.1, h2.2.1.trans h.2.1, h2.2.2.1.trans h.2.2.1, h2.2.2.2.1.trans h.2.2.2.1, h2.2.2.2.2.trans h.2.2.2.2⟩
set_option maxRecDepth 100000 in
set_option maxHeartbeats 4000000 in
theorem wplays_main {w : World} {A : Option Addr} {len cap most : Nat} {l : List GAct} (h : Acts w A len l) (hl : len ≤ 60) (hs : l.all short = true) (hm : most ≤ 2000) :
    Calls Try.prog 4 #[.int .i64 most, .slice A len cap] w fun e w' => e = .returned (.bool true) ∧ Below w.heap.size w w' := by
  have H := Lib.hid h
  have HS := Lib.hid hs
  clear h hs
  have m0 : decide ((most : Int) < 0) = false := by simp
  have m1 : decide ((2000 : Int) < (most : Int)) = false := by simp; omega
  go_enter Try.func4, Try.ntmps4
  go_wp2_with fail
  refine (wfew_any H.out hl).mono ?_
  rintro e wf ⟨rfl, bf⟩
  rw [HS.out]
  have BF := Lib.hid bf
  have bfz := bf.size
  clear bf
  go_wp2_with fail
  refine (wnew_any _).mono ?_
  rintro e w1 ⟨rfl, k1, k2, b1, z1⟩
  have K1 := Lib.hid k1
  have K2 := Lib.hid k2
  have B1 := Lib.hid (BF.out.trans (b1.mono bfz))
  have Z1 := Lib.hid z1
  have z1' := b1.size
  clear k1 k2 b1 z1
  go_wp2_with fail
  refine (lnew_at most (by omega) _).mono ?_
  rintro e w2 ⟨b, bi, gi, bo, go, rfl, l2, f2, b2⟩
  have z2 := b2.size
  have B2 := Lib.hid (B1.out.trans (b2.mono (by omega)))
  have KK1 := Lib.hid (K1.out.call b2)
  have KK2 := Lib.hid (K2.out.call b2)
  have L2 := Lib.hid l2
  have F2 := Lib.hid f2
  clear l2 f2 b2
  go_wp2_with fail
  obtain ⟨W, hW⟩ : ∃ W, W = w2.alloc (.cells #[.pointer (some ⟨wf.heap.size + 1, 0, none⟩), .pointer (some ⟨b, 0, none⟩), .string ⟨#[]⟩, .int .i64 0, .bool false, .string ⟨#[]⟩, .string ⟨#[]⟩, .string ⟨#[]⟩, .int .i64 most, .bool false, .bool false] 52) := ⟨_, rfl⟩
  rw [← hW]
  have tW : Touch (fun _ => False) w2 W := by rw [hW]; exact (Touch.refl _ _).alloc _
  have zW : W.heap.size = w2.heap.size + 1 := by rw [hW]; simp
  have bW : Below w.heap.size w W := by rw [hW]; exact B2.out.alloc (by omega) _
  have dW : Desk W W.heap.size w2.heap.size (wf.heap.size + 1) wf.heap.size b ⟨#[]⟩ 0 false ⟨#[]⟩ ⟨bi, gi, bo, go, most, [], [], ⟨#[]⟩, false, false⟩ ⟨#[]⟩ ⟨#[]⟩ ⟨#[]⟩ := by
    have hz := Z1.out
    refine ⟨IsW.new (KK1.out.touch tW id) (KK2.out.touch tW id) (by omega) (by omega) (Nat.le_refl _), L2.out.far tW (fun _ _ => id), ?_, rfl, rfl, rfl, by omega, fun i hi => by have := L2.out.lt i hi; omega⟩
    rw [hW]
    exact Blk.new _ _ _
  have DW := Lib.hid dW
  have BW := Lib.hid bW
  have hwf : w.heap.size ≤ wf.heap.size := bfz
  have ZW := Lib.hid zW
  have k0 : W.cell? ⟨w2.heap.size, 0, none⟩ = some (.pointer (some ⟨wf.heap.size + 1, 0, none⟩)) := dW.dk.cell 0
  have k1 : W.cell? ⟨w2.heap.size, 1, none⟩ = some (.pointer (some ⟨b, 0, none⟩)) := dW.dk.cell 1
  have hWw : w.heap.size ≤ W.heap.size := bW.size
  clear hW tW zW bW dW
  rcases Nat.eq_zero_or_pos len with rfl | h0
  · refine wp_loop_rounds 1 ?_
    rw [rounds_succ]
    go_wp2_with fail
    refine (wlives _).mono ?_
    rintro e w' ⟨rfl, hb2⟩
    go_wp2_with fail
    go_ret
    exact ⟨rfl, BW.out.trans (hb2.mono hWw)⟩
  obtain ⟨b', off, rfl, hb, hc⟩ := H.out.cells h0
  have HC := Lib.hid hc
  clear hc
  obtain ⟨B, hB⟩ : ∃ B, B = W.heap.size := ⟨_, rfl⟩
  rw [← hB] at DW hWw
  have HBW := Lib.hid hB
  clear hB
  go_loopw [41] (fun i wr => ∃ (k at_ : Nat) (S T Lf In Out : ByteArray) (E : Bool) (d : LD), k ≤ len ∧ i = .int .i64 k ∧ S.size ≤ 300 * k ∧ T.size + Out.size ≤ 300 * k ∧ Desk wr B w2.heap.size (wf.heap.size + 1) wf.heap.size b S at_ E T d Lf In Out ∧ SameB ⟨bi, gi, bo, go, most, [], [], ⟨#[]⟩, false, false⟩ d ∧ Below w.heap.size w wr) (fun i _ => len - (intOf i).toNat)
  case atStart => exact ⟨0, 0, ⟨#[]⟩, ⟨#[]⟩, ⟨#[]⟩, ⟨#[]⟩, ⟨#[]⟩, false, _, Nat.zero_le _, rfl, Nat.zero_le _, Nat.zero_le _, DW.out, ⟨rfl, rfl, rfl, rfl, rfl⟩, BW.out⟩
  case round =>
    obtain ⟨k, at_, S, T, Lf, In, Out, E, d, hk, rfl, hS, hT, hd, hsb, hnx⟩ := hrel
    have HD := Lib.hid hd
    have HB := Lib.hid hsb
    clear hd hsb
    by_cases hlt : k < len
    · obtain ⟨a, ha, c1, c2, c3, f1, f2, f3, f4, f5⟩ := H.out.get hnx hlt
      have hz := hnx.size
      have hsh : a.text.size ≤ 300 := of_decide_eq_true (List.all_eq_true.1 HS.out a ha)
      clear k0 k1
      go_wp2_with fail
      obtain ⟨V, hV⟩ : ∃ V, V = wr.alloc (.cells #[.int .i64 a.op, .int .i64 a.n, .string a.text] 54) := ⟨_, rfl⟩
      rw [← hV]
      have HDV := Lib.hid (show Desk V.drew B w2.heap.size (wf.heap.size + 1) wf.heap.size b S at_ E T d Lf In Out by rw [hV]; exact HD.out.far (P := fun _ => False) ((Touch.refl _ _).alloc _).drew (fun _ _ => id))
      have HBV := Lib.hid (show Below w.heap.size w V.drew by rw [hV]; exact (hnx.alloc hz _).drew)
      have hcW0 : V.cell? ⟨wr.heap.size, 0, none⟩ = some (.int .i64 a.op) := by rw [hV]; exact (Blk.new _ _ _).cell 0
      have hcW1 : V.cell? ⟨wr.heap.size, 1, none⟩ = some (.int .i64 a.n) := by rw [hV]; exact (Blk.new _ _ _).cell 1
      have hcW2 : V.cell? ⟨wr.heap.size, 2, none⟩ = some (.string a.text) := by rw [hV]; exact (Blk.new _ _ _).cell 2
      clear hV
      simp only [List.append]
      refine wp_region_any (by kernel_rfl) ?_
      (try (change wpAny _ _ _ _ _ _ _ (World.drew _)))
      refine wpAny_take (i := 0) (v := ?v) rfl (by kernel_rfl) (by kernel_rfl) (by kernel_rfl) (fun _ _ _ h => h) (Or.inl ⟨by rfl, ?hy⟩) ?rest
      case hy => (intro w; go_simp; try with_reducible rfl)
      refine wpAny_ready (rs := [1]) (by kernel_rfl) (by simp) (AllReady.cons rfl (fun K hK => ?_) AllReady.nil)
      go_simp
      (try (refine hK _ _ ?_; clear hK K))
      refine wpAny_ready (rs := [2]) (by kernel_rfl) (by simp) (AllReady.cons rfl (fun K hK => ?_) AllReady.nil)
      go_simp
      (try (refine hK _ _ ?_; clear hK K))
      refine (dact_any HDV.out a.op a.n a.text f3 f4 hsh (by omega) (by omega)).mono ?_
      rintro e w3 ⟨rfl, S', at', E', T', d', Lf', In', Out', d3, sb3, z1, z2, t3⟩
      have b3 : Below w.heap.size w w3 := HBV.out.trans (t3.below (fun i hi h => by
        have hz1 := Z1.out
        rcases h with h | h | h | h | h
        · omega
        · omega
        · omega
        · have := F2.out i ((HB.out.blocks b i).1 h); omega
        · have := h.1; omega) HBV.out.size)
      obtain ⟨s1, s2, s3, s4, s5, s6, s7⟩ := d3.sizes
      have hI : ∀ v n, (fun v => Desk v B w2.heap.size (wf.heap.size + 1) wf.heap.size b S' at' E' T' d' Lf' In' Out' ∧ Below w.heap.size w v) v → (fun v => Desk v B w2.heap.size (wf.heap.size + 1) wf.heap.size b S' at' E' T' d' Lf' In' Out' ∧ Below w.heap.size w v) (World.drewN v n) := fun v n h => ⟨h.1.far (P := fun _ => False) ((Touch.refl _ _).drewN _) (fun _ _ => id), h.2.trans ⟨rfl, rfl, rfl, Nat.le_refl _, fun _ _ => rfl⟩⟩
      obtain ⟨I, hIe⟩ : ∃ I : World → Prop, I = fun v => Desk v B w2.heap.size (wf.heap.size + 1) wf.heap.size b S' at' E' T' d' Lf' In' Out' ∧ Below w.heap.size w v := ⟨_, rfl⟩
      rw [← hIe] at hI
      have hI3 : I w3 := by rw [hIe]; exact ⟨d3, b3⟩
      have HIO := Lib.hid (show ∀ v, I v → Desk v B w2.heap.size (wf.heap.size + 1) wf.heap.size b S' at' E' T' d' Lf' In' Out' ∧ Below w.heap.size w v by rw [hIe]; exact fun _ h => h)
      have HIM := Lib.hid (show ∀ v, Desk v B w2.heap.size (wf.heap.size + 1) wf.heap.size b S' at' E' T' d' Lf' In' Out' ∧ Below w.heap.size w v → I v by rw [hIe]; exact fun _ h => h)
      have HII := Lib.hid hI
      have HI3 := Lib.hid hI3
      have NI : Nonempty (Cl I) := ⟨⟨w3, hI3⟩⟩
      have q0 : ∀ s : Cl I, s.val.cell? ⟨w2.heap.size, 0, none⟩ = some (.pointer (some ⟨wf.heap.size + 1, 0, none⟩)) := fun s => (HIO.out _ s.ok).1.dk.cell 0
      have q1 : ∀ s : Cl I, s.val.cell? ⟨w2.heap.size, 1, none⟩ = some (.pointer (some ⟨b, 0, none⟩)) := fun s => (HIO.out _ s.ok).1.dk.cell 1
      have q2 : ∀ s : Cl I, s.val.cell? ⟨w2.heap.size, 2, none⟩ = some (.string Lf') := fun s => (HIO.out _ s.ok).1.dk.cell 2
      have q5 : ∀ s : Cl I, s.val.cell? ⟨w2.heap.size, 5, none⟩ = some (.string T') := fun s => (HIO.out _ s.ok).1.dk.cell 5
      have q6 : ∀ s : Cl I, s.val.cell? ⟨w2.heap.size, 6, none⟩ = some (.string In') := fun s => (HIO.out _ s.ok).1.dk.cell 6
      have q7 : ∀ s : Cl I, s.val.cell? ⟨w2.heap.size, 7, none⟩ = some (.string Out') := fun s => (HIO.out _ s.ok).1.dk.cell 7
      have q9 : ∀ s : Cl I, s.val.cell? ⟨w2.heap.size, 9, none⟩ = some (.bool d'.ended) := fun s => (HIO.out _ s.ok).1.dk.cell 9
      obtain ⟨en, he⟩ : ∃ en, en = d'.ended := ⟨_, rfl⟩
      rw [← he] at q9
      have HEN := Lib.hid he
      obtain ⟨p, hp⟩ : ∃ p, p = decide (d'.I.length = 0) := ⟨_, rfl⟩
      have hpe : In'.toList.isEmpty = p := by rw [isEmpty_size, hp, s2]
      have HP := Lib.hid hp
      have HPI := Lib.hid d3.i
      have HLZ := Lib.hid (show (Lf'.size : Int) = (S'.size : Int) - at' by omega)
      have HOZ := Lib.hid (show (Out'.size : Int) = (d'.O.length + d'.more.size : Nat) by omega)
      have HS4 := Lib.hid (show S'.size ≤ 4611686018427387903 by omega)
      have HM4 := Lib.hid (show d'.more.size ≤ 4611686018427387903 by omega)
      have SB3 := Lib.hid (HB.out.trans sb3)
      have hS' : S'.size ≤ 300 * (k + 1) := by omega
      have hT' : T'.size + Out'.size ≤ 300 * (k + 1) := by omega
      clear he hp d3 sb3 z1 z2 t3 b3 hI hI3 hIe s1 s2 s3 s4 s5 s6 s7 hcW0 hcW1 hcW2 c1 c2 c3
      refine hK _ _ ?_
      clear hK K
      cases en
      all_goals
        refine wpAny_tail_cl3 HI3.out (by kernel_rfl) (by kernel_rfl) (by kernel_rfl) ?_
        repeat go_big_quiet_step ((first
          | (go_at_call 21; exact clD HII.out (wleft_any (HIO.out _ (Cl.ok _)).1.wr HS4.out (Lf'.size : Int) HLZ.out))
          | (go_at_call 22; exact Calls.cl_of ((sent_any (HIO.out _ (Cl.ok _)).1.wr T' rfl).mono fun _ _ ⟨a, r, t⟩ => ⟨a, HIM.out _ (sent_keeps (HIO.out _ (Cl.ok _)).1 (HIO.out _ (Cl.ok _)).2 r t hWw)⟩))
          | (go_at_call 23; exact clD HII.out (left_any (HIO.out _ (Cl.ok _)).1.l In' HPI.out))
          | (go_at_call 24; exact Calls.cl_same (wdry_at (HIO.out _ (Cl.ok _)).1.l _ (by rw [← HEN.out, ← HP.out])))
          | (go_at_call 25; exact clD HII.out (waits_at (HIO.out _ (Cl.ok _)).1.l HM4.out _ HOZ.out))))
        refine wpQuiet_nil ?_
        rintro _ ⟨s, rfl⟩
        go_wp2_with fail
        go_roundw
        case rel =>
          exact ⟨k + 1, at', S', T', Lf', In', Out', E', d', by omega, by go_num, hS', hT', (HIO.out _ s.ok).1, SB3.out, (HIO.out _ s.ok).2⟩
        case measure => simp [intOf]; omega
    · go_wp2_with fail
      refine (wlives _).mono ?_
      rintro e w' ⟨rfl, hb2⟩
      go_wp2_with fail
      go_ret
      exact ⟨rfl, hnx.trans (hb2.mono hnx.size)⟩
set_option maxHeartbeats 1000000 in
theorem wplays_low {w : World} {A : Option Addr} {len cap : Nat} {most : Int} (hm : most < 0) :
    Calls Try.prog 4 #[.int .i64 most, .slice A len cap] w fun e w' => e = .returned (.bool true) ∧ Below w.heap.size w w' := by
  have m0 : decide (most < 0) = true := by simpa using hm
  go_enter Try.func4, Try.ntmps4
  go_wp2_with fail
  refine (wlives _).mono ?_
  rintro e w' ⟨rfl, hb2⟩
  go_wp2_with fail
  go_ret
  exact ⟨rfl, hb2⟩
set_option maxHeartbeats 1000000 in
theorem wplays_much {w : World} {A : Option Addr} {len cap : Nat} {most : Int} (hm2 : 2000 < most) :
    Calls Try.prog 4 #[.int .i64 most, .slice A len cap] w fun e w' => e = .returned (.bool true) ∧ Below w.heap.size w w' := by
  have m0 : decide (most < 0) = false := by simp; omega
  have m2 : decide (2000 < most) = true := by simp; omega
  go_enter Try.func4, Try.ntmps4
  go_wp2_with fail
  refine (wlives _).mono ?_
  rintro e w' ⟨rfl, hb2⟩
  go_wp2_with fail
  go_ret
  exact ⟨rfl, hb2⟩
set_option maxHeartbeats 1000000 in
theorem wplays_many {w : World} {A : Option Addr} {len cap : Nat} {l : List GAct} {most : Int} (h : Acts w A len l) (hlm : len ≤ 9223372036854775807) (hf : (decide (len ≤ 60) && l.all short) = false) (hm : 0 ≤ most) (hm2 : most ≤ 2000) :
    Calls Try.prog 4 #[.int .i64 most, .slice A len cap] w fun e w' => e = .returned (.bool true) ∧ Below w.heap.size w w' := by
  have H := Lib.hid h
  have HF := Lib.hid hf
  clear h hf
  have m0 : decide (most < 0) = false := by simp; omega
  have m2 : decide (2000 < most) = false := by simp; omega
  go_enter Try.func4, Try.ntmps4
  go_wp2_with fail
  refine (wfew_all H.out hlm).mono ?_
  rintro e wf ⟨rfl, bf⟩
  rw [HF.out]
  go_wp2_with fail
  refine (wlives _).mono ?_
  rintro e w' ⟨rfl, hb2⟩
  go_wp2_with fail
  go_ret
  exact ⟨rfl, bf.trans (hb2.mono bf.size)⟩
theorem wplays_any {w : World} {A : Option Addr} {len cap : Nat} {l : List GAct} {most : Int} (h : Acts w A len l) (hlm : len ≤ 9223372036854775807) :
    Calls Try.prog 4 #[.int .i64 most, .slice A len cap] w fun e w' => e = .returned (.bool true) ∧ Below w.heap.size w w' := by
  by_cases h0 : most < 0
  · exact wplays_low h0
  by_cases h2 : 2000 < most
  · exact wplays_much (by omega)
  cases hf : (decide (len ≤ 60) && l.all short) with
  | false => exact wplays_many h hlm hf (by omega) (by omega)
  | true =>
    rw [Bool.and_eq_true, decide_eq_true_eq] at hf
    obtain ⟨m, rfl⟩ := Int.eq_ofNat_of_zero_le (show 0 ≤ most by omega)
    exact wplays_main h hf.1 hf.2 (by omega)
end Go.Proofs.Ytekbmefdaepgcaa
