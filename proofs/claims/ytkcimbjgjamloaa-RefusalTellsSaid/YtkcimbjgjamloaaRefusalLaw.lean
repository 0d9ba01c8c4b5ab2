/- RefusalTells: the walk. -/
import Derived.Test.YtkcimbjgjamloaaRefusalLives
namespace Go.Proofs.Ytkcimbjgjamloaa
open Go.RowKit Civ
/-- What holds between the region's operations: the case's block, what lay before; a head's fields; another's. -/
structure RefS (w : World) (C : Array Value) (v : World) : Prop where
  d : Blk v w.heap.size C 24
  u : Below w.heap.size w v
theorem RefS.below {w v v' : World} {C : Array Value} (h : RefS w C v) (b : Below v.heap.size v v') : RefS w C v' := ⟨h.d.call b, h.u.trans (b.mono h.u.size)⟩
structure RefS1 (w : World) (C : Array Value) (f : Value) (L : List Fd) (v : World) : Prop where
  s : RefS w C v
  f : Flds v f L
theorem RefS1.below {w v v' : World} {C : Array Value} {f : Value} {L : List Fd} (h : RefS1 w C f L v) (b : Below v.heap.size v v') : RefS1 w C f L v' := ⟨h.s.below b, h.f.below b⟩
structure RefS2 (w : World) (C : Array Value) (f f' : Value) (L : List Fd) (v : World) : Prop where
  s : RefS1 w C f L v
  f : Flds v f' L
theorem RefS2.below {w v v' : World} {C : Array Value} {f f' : Value} {L : List Fd} (h : RefS2 w C f f' L v) (b : Below v.heap.size v v') : RefS2 w C f f' L v' := ⟨h.s.below b, h.f.below b⟩
theorem hsame_true (k n : Int) (r : ByteArray) (f f' : Value) (l : List Fd) (w : World) (hf : Flds w f l) (hf' : Flds w f' l) (hz : l.length ≤ 1000000000) :
    Calls Try.prog 8 #[.agg #[.string ⟨#[]⟩, .string ⟨#[]⟩, .int .i64 k, .int .i64 n, .string r, f], .agg #[.string ⟨#[]⟩, .string ⟨#[]⟩, .int .i64 k, .int .i64 n, .string r, f']] w fun e w' => e = .returned (.bool true) ∧ Below w.heap.size w w' := by
  have := hsame_any ⟨#[]⟩ ⟨#[]⟩ r ⟨#[]⟩ ⟨#[]⟩ r k n k n f f' l l (p1 := true) (p2 := true) (p3 := true) (p4 := true) (p5 := true) (by simp) (by simp) (by simp) (by simp) (by simp) w hf hf' hz hz
  simpa using this
set_option maxRecDepth 100000 in
set_option maxHeartbeats 20000000 in
theorem tells_any (side e st mi no : Int) (h1 : -9223372036854775808 ≤ mi) (h2 : mi ≤ 9223372036854775807) (h3 : -9223372036854775808 ≤ no) (h4 : no ≤ 9223372036854775807) (w : World) :
    Calls Try.prog 3 #[.int .i64 side, .int .i64 e, .agg #[.int .i64 st, .int .i64 mi, .int .i64 no]] w fun x w' => x = .returned (.bool true) ∧ Below w.heap.size w w' := by
  obtain ⟨T, hT⟩ := prints_any no h3 h4
  have HH := Lib.hid (fun W => head_any st mi no h1 h2 hT W)
  have HR := Lib.hid (fun W => rhead_any st mi no hT W)
  have HS := Lib.hid (fun W => status_any side e W)
  have HT := Lib.hid (fun W => rstatus_side side e W)
  have HC := Lib.hid (fun W => continue_any mi h1 h2 W)
  have HD := Lib.hid (fun W => rcontinue_any mi W)
  have hl := hdL_len T
  obtain ⟨L, hL⟩ : ∃ L, L = hdL T := ⟨_, rfl⟩
  rw [← hL] at HH HR hl
  obtain ⟨sB, hsB⟩ : ∃ s, s = statB side e := ⟨_, rfl⟩
  rw [← hsB] at HS HT
  unfold contV at HC HD
  obtain ⟨vN, hvN⟩ : ∃ s, s = verN mi := ⟨_, rfl⟩
  rw [← hvN] at HH HR HC HD
  obtain ⟨R, hR⟩ : ∃ s, s = reasonS st := ⟨_, rfl⟩
  rw [← hR] at HH HR
  have HLz := Lib.hid (show L.length ≤ 1000000000 by omega)
  obtain ⟨C, hC⟩ : ∃ C : Array Value, C = #[.int .i64 st, .int .i64 mi, .int .i64 no] := ⟨_, rfl⟩
  have hs0 : RefS w C (w.alloc (.cells C 24)).drew := ⟨Blk.new _ _ _, ((Below.refl _ _).alloc (Nat.le_refl _) _).drew⟩
  have HS0 := Lib.hid hs0
  have HCe := Lib.hid hC
  rw [← hC]
  clear hT hL hl hsB hvN hR hC hs0 h1 h2 h3 h4
  go_enter Try.func3, Try.ntmps3
  go_wp2_with fail
  refine wp_region_at (S := RefS w C) (by kernel_rfl) ?_
  rintro V0 hV0
  have h0 : RefS w C V0 := by rw [hV0]; exact HS0.out
  clear hV0
  refine wpAnyH_take (i := 0) (v := .int .i64 side) rfl (by kernel_rfl) (by kernel_rfl) (by kernel_rfl) (fun _ _ _ h => h) (Or.inl ⟨by kernel_rfl, ?hy1⟩) h0 ?rest1
  case hy1 =>
    intro v hv
    clear hv
    go_simp
  (try simp only [Act.put, List.setIfInBounds_toArray, List.set_cons_zero, List.set_cons_succ])
  refine wpAnyH_take (i := 1) (v := .int .i64 e) rfl (by kernel_rfl) (by kernel_rfl) (by kernel_rfl) (fun _ _ _ h => h) (Or.inl ⟨by kernel_rfl, ?hy2⟩) h0 ?rest2
  case hy2 =>
    intro v hv
    clear hv
    go_simp
  (try simp only [Act.put, List.setIfInBounds_toArray, List.set_cons_zero, List.set_cons_succ])
  refine wpAnyH_take (i := 3) (v := .int .i64 side) rfl (by kernel_rfl) (by kernel_rfl) (by kernel_rfl) (fun _ _ _ h => h) (Or.inl ⟨by kernel_rfl, ?hy3⟩) h0 ?rest3
  case hy3 =>
    intro v hv
    clear hv
    go_simp
  (try simp only [Act.put, List.setIfInBounds_toArray, List.set_cons_zero, List.set_cons_succ])
  refine wpAnyH_take (i := 4) (v := .int .i64 e) rfl (by kernel_rfl) (by kernel_rfl) (by kernel_rfl) (fun _ _ _ h => h) (Or.inl ⟨by kernel_rfl, ?hy4⟩) h0 ?rest4
  case hy4 =>
    intro v hv
    clear hv
    go_simp
  (try simp only [Act.put, List.setIfInBounds_toArray, List.set_cons_zero, List.set_cons_succ])
  refine wpAnyH_ready (rs := [2]) (by kernel_rfl) (by simp) ?_
  refine AllReadyH.cons rfl (fun K hK => ?_) AllReadyH.nil
  go_simp
  refine (HS.out _).mono ?_
  rintro x2 V1 ⟨rfl, hb⟩
  have h1 := h0.below hb
  clear hb h0
  refine hK _ _ h1 (fun _ => ?_)
  clear hK K
  (try simp only [Act.put, List.setIfInBounds_toArray, List.set_cons_zero, List.set_cons_succ])
  refine wpAnyH_ready (rs := [5]) (by kernel_rfl) (by simp) ?_
  refine AllReadyH.cons rfl (fun K hK => ?_) AllReadyH.nil
  go_simp
  refine (HT.out _).mono ?_
  rintro x5 V2 ⟨rfl, rfl⟩
  refine hK _ _ h1 (fun _ => ?_)
  clear hK K
  (try simp only [Act.put, List.setIfInBounds_toArray, List.set_cons_zero, List.set_cons_succ])
  refine wpAnyH_take (i := 6) (v := .bool true) rfl (by kernel_rfl) (by kernel_rfl) (by kernel_rfl) (fun _ _ _ h => h) (Or.inl ⟨by kernel_rfl, ?hy5⟩) h1 ?rest5
  case hy5 =>
    intro v hv
    clear hv
    go_simp
  (try simp only [Act.put, List.setIfInBounds_toArray, List.set_cons_zero, List.set_cons_succ])
  refine wpAnyH_take (i := 7) (v := .bool true) rfl (by kernel_rfl) (by kernel_rfl) (by kernel_rfl) (fun _ _ _ h => h) (Or.inl ⟨by kernel_rfl, ?hy6⟩) h1 ?rest6
  case hy6 =>
    intro v hv
    clear hv
    go_simp
  (try simp only [Act.put, List.setIfInBounds_toArray, List.set_cons_zero, List.set_cons_succ])
  refine wpAnyH_take (i := 8) (v := .pointer (some ⟨w.heap.size, 0, none⟩)) rfl (by kernel_rfl) (by kernel_rfl) (by kernel_rfl) (fun _ _ _ h => h) (Or.inl ⟨by kernel_rfl, ?hy7⟩) h1 ?rest7
  case hy7 =>
    intro v hv
    clear hv
    go_simp
  (try simp only [Act.put, List.setIfInBounds_toArray, List.set_cons_zero, List.set_cons_succ])
  refine wpAnyH_take (i := 9) (v := .int .i64 st) rfl (by kernel_rfl) (by kernel_rfl) (by kernel_rfl) (fun _ _ _ h => h) (Or.inl ⟨by kernel_rfl, ?hy8⟩) h1 ?rest8
  case hy8 =>
    intro v hv
    have q : v.cell? ⟨w.heap.size, 0, none⟩ = some (.int .i64 st) := by rw [hv.d.cell 0, HCe.out]; rfl
    clear hv
    go_simp
  (try simp only [Act.put, List.setIfInBounds_toArray, List.set_cons_zero, List.set_cons_succ])
  refine wpAnyH_take (i := 10) (v := .pointer (some ⟨w.heap.size, 1, none⟩)) rfl (by kernel_rfl) (by kernel_rfl) (by kernel_rfl) (fun _ _ _ h => h) (Or.inl ⟨by kernel_rfl, ?hy9⟩) h1 ?rest9
  case hy9 =>
    intro v hv
    clear hv
    go_simp
  (try simp only [Act.put, List.setIfInBounds_toArray, List.set_cons_zero, List.set_cons_succ])
  refine wpAnyH_take (i := 11) (v := .int .i64 mi) rfl (by kernel_rfl) (by kernel_rfl) (by kernel_rfl) (fun _ _ _ h => h) (Or.inl ⟨by kernel_rfl, ?hy10⟩) h1 ?rest10
  case hy10 =>
    intro v hv
    have q : v.cell? ⟨w.heap.size, 1, none⟩ = some (.int .i64 mi) := by rw [hv.d.cell 1, HCe.out]; rfl
    clear hv
    go_simp
  (try simp only [Act.put, List.setIfInBounds_toArray, List.set_cons_zero, List.set_cons_succ])
  refine wpAnyH_take (i := 12) (v := .pointer (some ⟨w.heap.size, 2, none⟩)) rfl (by kernel_rfl) (by kernel_rfl) (by kernel_rfl) (fun _ _ _ h => h) (Or.inl ⟨by kernel_rfl, ?hy11⟩) h1 ?rest11
  case hy11 =>
    intro v hv
    clear hv
    go_simp
  (try simp only [Act.put, List.setIfInBounds_toArray, List.set_cons_zero, List.set_cons_succ])
  refine wpAnyH_take (i := 13) (v := .int .i64 no) rfl (by kernel_rfl) (by kernel_rfl) (by kernel_rfl) (fun _ _ _ h => h) (Or.inl ⟨by kernel_rfl, ?hy12⟩) h1 ?rest12
  case hy12 =>
    intro v hv
    have q : v.cell? ⟨w.heap.size, 2, none⟩ = some (.int .i64 no) := by rw [hv.d.cell 2, HCe.out]; rfl
    clear hv
    go_simp
  (try simp only [Act.put, List.setIfInBounds_toArray, List.set_cons_zero, List.set_cons_succ])
  refine wpAnyH_take (i := 15) (v := .pointer (some ⟨w.heap.size, 0, none⟩)) rfl (by kernel_rfl) (by kernel_rfl) (by kernel_rfl) (fun _ _ _ h => h) (Or.inl ⟨by kernel_rfl, ?hy13⟩) h1 ?rest13
  case hy13 =>
    intro v hv
    clear hv
    go_simp
  (try simp only [Act.put, List.setIfInBounds_toArray, List.set_cons_zero, List.set_cons_succ])
  refine wpAnyH_take (i := 16) (v := .int .i64 st) rfl (by kernel_rfl) (by kernel_rfl) (by kernel_rfl) (fun _ _ _ h => h) (Or.inl ⟨by kernel_rfl, ?hy14⟩) h1 ?rest14
  case hy14 =>
    intro v hv
    have q : v.cell? ⟨w.heap.size, 0, none⟩ = some (.int .i64 st) := by rw [hv.d.cell 0, HCe.out]; rfl
    clear hv
    go_simp
  (try simp only [Act.put, List.setIfInBounds_toArray, List.set_cons_zero, List.set_cons_succ])
  refine wpAnyH_take (i := 17) (v := .pointer (some ⟨w.heap.size, 1, none⟩)) rfl (by kernel_rfl) (by kernel_rfl) (by kernel_rfl) (fun _ _ _ h => h) (Or.inl ⟨by kernel_rfl, ?hy15⟩) h1 ?rest15
  case hy15 =>
    intro v hv
    clear hv
    go_simp
  (try simp only [Act.put, List.setIfInBounds_toArray, List.set_cons_zero, List.set_cons_succ])
  refine wpAnyH_take (i := 18) (v := .int .i64 mi) rfl (by kernel_rfl) (by kernel_rfl) (by kernel_rfl) (fun _ _ _ h => h) (Or.inl ⟨by kernel_rfl, ?hy16⟩) h1 ?rest16
  case hy16 =>
    intro v hv
    have q : v.cell? ⟨w.heap.size, 1, none⟩ = some (.int .i64 mi) := by rw [hv.d.cell 1, HCe.out]; rfl
    clear hv
    go_simp
  (try simp only [Act.put, List.setIfInBounds_toArray, List.set_cons_zero, List.set_cons_succ])
  refine wpAnyH_take (i := 19) (v := .pointer (some ⟨w.heap.size, 2, none⟩)) rfl (by kernel_rfl) (by kernel_rfl) (by kernel_rfl) (fun _ _ _ h => h) (Or.inl ⟨by kernel_rfl, ?hy17⟩) h1 ?rest17
  case hy17 =>
    intro v hv
    clear hv
    go_simp
  (try simp only [Act.put, List.setIfInBounds_toArray, List.set_cons_zero, List.set_cons_succ])
  refine wpAnyH_take (i := 20) (v := .int .i64 no) rfl (by kernel_rfl) (by kernel_rfl) (by kernel_rfl) (fun _ _ _ h => h) (Or.inl ⟨by kernel_rfl, ?hy18⟩) h1 ?rest18
  case hy18 =>
    intro v hv
    have q : v.cell? ⟨w.heap.size, 2, none⟩ = some (.int .i64 no) := by rw [hv.d.cell 2, HCe.out]; rfl
    clear hv
    go_simp
  (try simp only [Act.put, List.setIfInBounds_toArray, List.set_cons_zero, List.set_cons_succ])
  refine wpAnyH_ready (rs := [14]) (by kernel_rfl) (by simp) ?_
  refine AllReadyH.cons rfl (fun K hK => ?_) AllReadyH.nil
  go_simp
  refine (HH.out _).mono ?_
  rintro x14 V3 ⟨f, rfl, hf, hb⟩
  have h3 : RefS1 w C f L V3 := ⟨h1.below hb, hf⟩
  clear hb hf h1
  refine hK _ _ h3.s (fun _ => ?_)
  clear hK K
  refine wpAnyH_grow (T := RefS1 w C f L) (fun _ h => h.s) _ _ _ _ ?_
  (try simp only [Act.put, List.setIfInBounds_toArray, List.set_cons_zero, List.set_cons_succ])
  refine wpAnyH_ready (rs := [21]) (by kernel_rfl) (by simp) ?_
  refine AllReadyH.cons rfl (fun K hK => ?_) AllReadyH.nil
  go_simp
  refine (HR.out _).mono ?_
  rintro x21 V4 ⟨f', rfl, hf, hb⟩
  have h4 : RefS2 w C f f' L V4 := ⟨h3.below hb, hf⟩
  clear hb hf h3
  refine hK _ _ h4.s (fun _ => ?_)
  clear hK K
  refine wpAnyH_grow (T := RefS2 w C f f' L) (fun _ h => h.s) _ _ _ _ ?_
  (try simp only [Act.put, List.setIfInBounds_toArray, List.set_cons_zero, List.set_cons_succ])
  refine wpAnyH_ready (rs := [22]) (by kernel_rfl) (by simp) ?_
  refine AllReadyH.cons rfl (fun K hK => ?_) AllReadyH.nil
  go_simp
  refine (hsame_true _ _ _ _ _ L _ h4.s.f h4.f HLz.out).mono ?_
  rintro x22 V5 ⟨rfl, hb⟩
  have h5 := h4.below hb
  clear hb h4
  refine hK _ _ h5 (fun _ => ?_)
  clear hK K
  (try simp only [Act.put, List.setIfInBounds_toArray, List.set_cons_zero, List.set_cons_succ])
  refine wpAnyH_take (i := 23) (v := .bool true) rfl (by kernel_rfl) (by kernel_rfl) (by kernel_rfl) (fun _ _ _ h => h) (Or.inl ⟨by kernel_rfl, ?hy19⟩) h5 ?rest19
  case hy19 =>
    intro v hv
    clear hv
    go_simp
  (try simp only [Act.put, List.setIfInBounds_toArray, List.set_cons_zero, List.set_cons_succ])
  refine wpAnyH_take (i := 24) (v := .bool true) rfl (by kernel_rfl) (by kernel_rfl) (by kernel_rfl) (fun _ _ _ h => h) (Or.inl ⟨by kernel_rfl, ?hy20⟩) h5 ?rest20
  case hy20 =>
    intro v hv
    clear hv
    go_simp
  (try simp only [Act.put, List.setIfInBounds_toArray, List.set_cons_zero, List.set_cons_succ])
  refine wpAnyH_take (i := 25) (v := .pointer (some ⟨w.heap.size, 1, none⟩)) rfl (by kernel_rfl) (by kernel_rfl) (by kernel_rfl) (fun _ _ _ h => h) (Or.inl ⟨by kernel_rfl, ?hy21⟩) h5 ?rest21
  case hy21 =>
    intro v hv
    clear hv
    go_simp
  (try simp only [Act.put, List.setIfInBounds_toArray, List.set_cons_zero, List.set_cons_succ])
  refine wpAnyH_take (i := 26) (v := .int .i64 mi) rfl (by kernel_rfl) (by kernel_rfl) (by kernel_rfl) (fun _ _ _ h => h) (Or.inl ⟨by kernel_rfl, ?hy22⟩) h5 ?rest22
  case hy22 =>
    intro v hv
    have q : v.cell? ⟨w.heap.size, 1, none⟩ = some (.int .i64 mi) := by rw [hv.s.s.d.cell 1, HCe.out]; rfl
    clear hv
    go_simp
  (try simp only [Act.put, List.setIfInBounds_toArray, List.set_cons_zero, List.set_cons_succ])
  refine wpAnyH_take (i := 28) (v := .pointer (some ⟨w.heap.size, 1, none⟩)) rfl (by kernel_rfl) (by kernel_rfl) (by kernel_rfl) (fun _ _ _ h => h) (Or.inl ⟨by kernel_rfl, ?hy23⟩) h5 ?rest23
  case hy23 =>
    intro v hv
    clear hv
    go_simp
  (try simp only [Act.put, List.setIfInBounds_toArray, List.set_cons_zero, List.set_cons_succ])
  refine wpAnyH_take (i := 29) (v := .int .i64 mi) rfl (by kernel_rfl) (by kernel_rfl) (by kernel_rfl) (fun _ _ _ h => h) (Or.inl ⟨by kernel_rfl, ?hy24⟩) h5 ?rest24
  case hy24 =>
    intro v hv
    have q : v.cell? ⟨w.heap.size, 1, none⟩ = some (.int .i64 mi) := by rw [hv.s.s.d.cell 1, HCe.out]; rfl
    clear hv
    go_simp
  (try simp only [Act.put, List.setIfInBounds_toArray, List.set_cons_zero, List.set_cons_succ])
  refine wpAnyH_ready (rs := [27]) (by kernel_rfl) (by simp) ?_
  refine AllReadyH.cons rfl (fun K hK => ?_) AllReadyH.nil
  go_simp
  refine (HC.out _).mono ?_
  rintro x27 V6 ⟨rfl, hb⟩
  have h6 := h5.below hb
  clear hb h5
  refine hK _ _ h6 (fun _ => ?_)
  clear hK K
  (try simp only [Act.put, List.setIfInBounds_toArray, List.set_cons_zero, List.set_cons_succ])
  refine wpAnyH_ready (rs := [30]) (by kernel_rfl) (by simp) ?_
  refine AllReadyH.cons rfl (fun K hK => ?_) AllReadyH.nil
  go_simp
  refine (HD.out _).mono ?_
  rintro x30 V7 ⟨rfl, hb⟩
  have h7 := h6.below hb
  clear hb h6
  refine hK _ _ h7 (fun _ => ?_)
  clear hK K
  (try simp only [Act.put, List.setIfInBounds_toArray, List.set_cons_zero, List.set_cons_succ])
  refine wpAnyH_ready (rs := [31]) (by kernel_rfl) (by simp) ?_
  refine AllReadyH.cons rfl (fun K hK => ?_) AllReadyH.nil
  go_simp
  refine (hsame_true _ _ _ _ _ [] _ (Flds.nil _ _ _) (Flds.nil _ _ _) (by simp)).mono ?_
  rintro x31 V8 ⟨rfl, hb⟩
  have h8 := h7.below hb
  clear hb h7
  refine hK _ _ h8 (fun _ => ?_)
  clear hK K
  (try simp only [Act.put, List.setIfInBounds_toArray, List.set_cons_zero, List.set_cons_succ])
  refine wpAnyH_take (i := 32) (v := .bool true) rfl (by kernel_rfl) (by kernel_rfl) (by kernel_rfl) (fun _ _ _ h => h) (Or.inl ⟨by kernel_rfl, ?hy25⟩) h8 ?rest25
  case hy25 =>
    intro v hv
    clear hv
    go_simp
  (try simp only [Act.put, List.setIfInBounds_toArray, List.set_cons_zero, List.set_cons_succ])
  refine wpAnyH_take (i := 33) (v := .bool true) rfl (by kernel_rfl) (by kernel_rfl) (by kernel_rfl) (fun _ _ _ h => h) (Or.inl ⟨by kernel_rfl, ?hy26⟩) h8 ?rest26
  case hy26 =>
    intro v hv
    clear hv
    go_simp
  (try simp only [Act.put, List.setIfInBounds_toArray, List.set_cons_zero, List.set_cons_succ])
  refine wpAnyH_ready (rs := [34]) (by kernel_rfl) (by simp) ?_
  refine AllReadyH.cons rfl (fun K hK => ?_) AllReadyH.nil
  go_simp
  refine (lives33 _).mono ?_
  rintro x34 V9 ⟨rfl, hb⟩
  have h9 := h8.below hb
  clear hb h8
  refine hK _ _ h9 (fun _ => ?_)
  clear hK K
  (try simp only [Act.put, List.setIfInBounds_toArray, List.set_cons_zero, List.set_cons_succ])
  refine wpAnyH_ready (rs := [35]) (by kernel_rfl) (by simp) ?_
  refine AllReadyH.cons rfl (fun K hK => ?_) AllReadyH.nil
  go_simp
  refine hK _ _ h9 (fun _ => ?_)
  clear hK K
  (try simp only [Act.put, List.setIfInBounds_toArray, List.set_cons_zero, List.set_cons_succ])
  refine wpAnyH_ready (rs := [36]) (by kernel_rfl) (by simp) ?_
  refine AllReadyH.cons rfl (fun K hK => ?_) AllReadyH.nil
  go_simp
  refine hK _ _ h9 (fun _ => ?_)
  clear hK K
  (try simp only [Act.put, List.setIfInBounds_toArray, List.set_cons_zero, List.set_cons_succ])
  refine wpAnyH_done (by kernel_rfl) ?_ _
  have hfin := Lib.hid h9.s.s.u
  clear h9
  go_wp2_with fail
  go_ret
  exact ⟨rfl, hfin.out⟩
end Go.Proofs.Ytkcimbjgjamloaa
