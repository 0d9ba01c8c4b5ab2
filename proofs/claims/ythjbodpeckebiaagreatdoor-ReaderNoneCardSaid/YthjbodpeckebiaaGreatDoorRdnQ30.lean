/- Texts packed for one claim, 30 of 48: Text Hex. -/
import Derived.Test.YthjbodpeckebiaaGreatDoorRdnQ11
import Derived.Test.YthjbodpeckebiaaGreatDoorRdnShelf
import Derived.Lib.Repeat
set_option linter.unusedSimpArgs false
set_option linter.unusedVariables false
-- Text
namespace Go.Proofs.YthjbodpeckebiaaGreatDoor
open Go.RowKit
theorem qK {b n:Nat} (h:n<b):jc b n=[oK n]:=by rw[jc,dif_neg (fun h'=>by omega)]
theorem oL {b n:Nat} (hb:2<=b) (h:b<=n):jc b n=jc b (n / b)++[oK (n % b)]:=by rw[jc,dif_pos ⟨hb,h⟩]
theorem lh {b:Nat} (hb:2<=b):∀(k n:Nat),1<=k->n<2 ^ k->(jc b n).length<=k
 | 0,_,h,_=>by omega
 | k+1,n,_,h=>by
   rcases uG n b with h1|h1
   ·rw[qK h1];simp
   ·rw[oL hb h1,ue]
    have h2:n / b<=n / 2:=Nat.div_le_div_left hb (by omega)
    have h4:0<k:=by
     rcases Nat.eq_zero_or_pos k with rfl|h5
     ·simp at h;omega
     ·exact h5
    have:=lh hb k (n / b) h4 (by rw[Nat.pow_succ] at h;omega);simp only[t4,uT];omega
theorem oJ {b:Nat} (hb:2<=b) (n:Nat) (h:n<2 ^ 64):(⟨(jc b n).toArray⟩:ByteArray).size<=64:=by
 have:=lh hb 64 n (by decide) h;show (jc b n).toArray.size<=64;simpa using this
theorem tm (c:UInt8) (acc:List UInt8):(⟨#[c]⟩:ByteArray)++⟨acc.toArray⟩=⟨(c :: acc).toArray⟩:=by apply ByteArray.ext;simp
theorem sign_cut (k:Nat) (h:k<16):s8.extract k (k+1)=⟨#[oK k]⟩:=by
 have h3:∀k,k<16->(s8.extract k (k+1))=⟨#[oK k]⟩:=by decide
 exact h3 k h
end Go.Proofs.YthjbodpeckebiaaGreatDoor
-- Hex
namespace Go.Proofs.YthjbodpeckebiaaGreatDoor
open Go.RowKit
def ts (n:Int):ByteArray:=if n<0 then ⟨#[]⟩ else ⟨(jc 16 n.natAbs).toArray⟩
def crlf:ByteArray:=⟨#[13,10]⟩
def tl (n:Int):ByteArray:=if n<0 then ⟨#[]⟩ else ts n++crlf
def beginB (n:Int):ByteArray:=if n<1 then ⟨#[]⟩ else tl n
theorem hexB_size (n:Int) (h':n<=9223372036854775807):(ts n).size<=64:=by
 unfold ts;split
 ·exact tX _
 ·exact oJ (by decide) _ (by omega)
end Go.Proofs.YthjbodpeckebiaaGreatDoor