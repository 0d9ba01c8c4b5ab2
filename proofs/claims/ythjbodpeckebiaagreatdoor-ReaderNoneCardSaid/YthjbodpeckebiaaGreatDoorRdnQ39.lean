/- Texts packed for one claim, 39 of 48: EbA RbQ MsP. -/
import Derived.Test.YthjbodpeckebiaaGreatDoorRdnQ29
import Derived.Test.YthjbodpeckebiaaGreatDoorRdnQ38
import Derived.Test.YthjbodpeckebiaaGreatDoorRdnQ32
import Derived.Test.YthjbodpeckebiaaGreatDoorRdnQ6
set_option linter.unusedSimpArgs false
set_option linter.unusedVariables false
-- EbA
namespace Go.Proofs.YthjbodpeckebiaaGreatDoor
open Go.RowKit
end Go.Proofs.YthjbodpeckebiaaGreatDoor
-- RbQ
namespace Go.Proofs.YthjbodpeckebiaaGreatDoor
open Go.RowKit
end Go.Proofs.YthjbodpeckebiaaGreatDoor
-- MsP
namespace Go.Proofs.YthjbodpeckebiaaGreatDoor
open Go.RowKit
def eC (kind:Int) (h:Hd) (method:ByteArray):Int×Int×Int:=
 if kind=1 then nb h.fs h.k
 else if (gy h.fs h.k h.n method).2.2=0/\h.n=101 then (0,0,12) else gy h.fs h.k h.n method
theorem pg (l:List UInt8) (b most:Int) (hm:0<=most):(al l b most).1<=most:=by
 unfold al;split
 ·exact hm
 split
 ·exact hm
 split
 ·assumption
 ·exact hm
theorem nK:∀(l:List ByteArray) (f r:Int),cS f l=some r->(l=[]/\r=f)\/r<=2147483647
 | [],f,r,h=>by cases h;exact Or.inl ⟨rfl,rfl⟩
 | p :: t,f,r,h=>by
   unfold cS at h;split at h
   ·cases h
   ·right
    rcases nK t _ r h with ⟨_,h1⟩|h1
    ·rw[h1];exact pg _ _ _ (by decide)
    ·exact h1
theorem pQ (fs:List Fd) (minor:Int):0<=(bX fs minor).2.1/\(bX fs minor).2.1<=2147483647:=by
 unfold bX;split
 ·exact(by decide:(0:Int)<=0/\(0:Int)<=2147483647)
 split
 ·exact(by decide:(0:Int)<=0/\(0:Int)<=2147483647)
 cases hl:dS fs with
 | none=>exact(by decide:(0:Int)<=0/\(0:Int)<=2147483647)
 | some n=>
   simp only;split
   ·exact(by decide:(0:Int)<=0/\(0:Int)<=2147483647)
   split
   ·rename_i h0
    refine⟨h0,?_⟩;rcases nK _ _ _ hl with ⟨_,h1⟩|h1
    ·show n<=_
     omega
    ·exact h1
   ·exact(by decide:(0:Int)<=0/\(0:Int)<=2147483647)
theorem qO (kind:Int) (h:Hd) (method:ByteArray):0<=(eC kind h method).2.1/\(eC kind h method).2.1<=2147483647:=by
 have h1:=pQ h.fs h.k;unfold eC;split
 ·unfold nb
  split
  ·exact(by decide:(0:Int)<=0/\(0:Int)<=2147483647)
  split
  ·exact(by decide:(0:Int)<=0/\(0:Int)<=2147483647)
  ·exact h1
 split
 ·exact(by decide:(0:Int)<=0/\(0:Int)<=2147483647)
 ·unfold gy
  split
  ·exact(by decide:(0:Int)<=0/\(0:Int)<=2147483647)
  ·exact h1
end Go.Proofs.YthjbodpeckebiaaGreatDoor