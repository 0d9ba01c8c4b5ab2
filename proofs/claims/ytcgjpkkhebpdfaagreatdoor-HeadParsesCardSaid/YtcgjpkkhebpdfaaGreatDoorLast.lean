/- A slice of fields in memory; encode.Last and the reference's Last; the law's Few. -/
import Derived.Test.YtcgjpkkhebpdfaaGreatDoorField
import Derived.Test.YtcgjpkkhebpdfaaGreatDoorHex
namespace Go.Proofs.YtcgjpkkhebpdfaaGreatDoor
open Go.RowKit
abbrev Fld := ByteArray × ByteArray
/-- A slice value's fields. -/
def Fds (w : World) (A : Option Addr) (len : Nat) (l : List Fld) : Prop :=
  l.length = len ∧ (0 < len → ∃ b off, A = some ⟨b, off, none⟩ ∧ b < w.heap.size ∧ ∀ (i : Nat) (g : Fld), l[i]? = some g → w.cell? ⟨b, off + i * 2, none⟩ = some (.string g.1) ∧ w.cell? ⟨b, off + i * 2 + 1, none⟩ = some (.string g.2))
theorem Fds.below {w w' : World} {A : Option Addr} {len : Nat} {l : List Fld} (h : Fds w A len l) (hb : Below w.heap.size w w') : Fds w' A len l := by
  refine ⟨h.1, fun h0 => ?_⟩
  obtain ⟨b, off, e, hlt, hc⟩ := h.2 h0
  refine ⟨b, off, e, Nat.lt_of_lt_of_le hlt hb.size, fun i g hg => ?_⟩
  rw [hb.cell (p := ⟨b, off + i * 2, none⟩) hlt, hb.cell (p := ⟨b, off + i * 2 + 1, none⟩) hlt]
  exact hc i g hg
def frow (f : Fld) : ByteArray := flineB f.1 f.2 ++ crlf
/-- The trailers written so far. -/
def lastA (l : List Fld) : ByteArray := l.foldl (fun o f => o ++ frow f) ⟨#[48, 13, 10]⟩
def lastB (l : List Fld) : ByteArray := lastA l ++ crlf
theorem lastA_snoc (l : List Fld) (f : Fld) : lastA (l ++ [f]) = lastA l ++ frow f := by unfold lastA; rw [List.foldl_append]; rfl
theorem cline_zero : clineB 0 = ⟨#[48, 13, 10]⟩ := by
  unfold clineB hexB
  rw [if_neg (by decide), if_neg (by decide), show (0 : Int).natAbs = 0 from rfl, figL_low (by decide)]
  rfl
theorem frow_size (f : Fld) : (frow f).size ≤ f.1.size + f.2.size + 4 := by
  have := flineB_size f.1 f.2
  unfold frow
  rw [ByteArray.size_append]
  show (flineB f.1 f.2).size + 2 ≤ _
  omega
theorem lastA_size (l : List Fld) (hs : ∀ g ∈ l, g.1.size ≤ 1000 ∧ g.2.size ≤ 1000) : ∀ k, k ≤ l.length → (lastA (l.take k)).size ≤ 3 + 2004 * k
  | 0, _ => by rw [List.take_zero]; exact Nat.le_refl _
  | k + 1, h => by
    have h1 := lastA_size l hs k (by omega)
    rw [List.take_succ_eq_append_getElem (by omega), lastA_snoc, ByteArray.size_append]
    have h2 := frow_size (l[k]'(by omega))
    have h3 := hs (l[k]'(by omega)) (List.getElem_mem _)
    omega
theorem fline_at {n v X : ByteArray} (hX : X = flineB n v) (hn : n.size ≤ 1000000000) (hv : v.size ≤ 1000000000) (w : World) : Calls Tryz.prog 38 #[.agg #[.string n, .string v]] w fun e w' => e = .returned (.string X) ∧ Below w.heap.size w w' := by
  subst hX; exact fline_any n v hn hv w
theorem rfline_at {n v X : ByteArray} (hX : X = flineB n v) (hn : n.size ≤ 1000000000) (hv : v.size ≤ 1000000000) (w : World) : Calls Tryz.prog 43 #[.agg #[.string n, .string v]] w fun e w' => e = .returned (.string X) ∧ Below w.heap.size w w' := by
  subst hX; exact rfline_any n v hn hv w
/-- Are there so few fields, and are they so short? -/
def fewF (l : List Fld) : Bool := decide (l.length ≤ 40) && l.all fun f => decide (f.1.size ≤ 100 ∧ f.2.size ≤ 300)
end Go.Proofs.YtcgjpkkhebpdfaaGreatDoor
