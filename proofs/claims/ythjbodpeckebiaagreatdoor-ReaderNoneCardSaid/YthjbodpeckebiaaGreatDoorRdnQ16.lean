/- Texts packed for one claim, 16 of 48: StartLaw. -/
import Derived.Test.YthjbodpeckebiaaGreatDoorRdnQ14
import Derived.Test.YthjbodpeckebiaaGreatDoorRdnQ15
import Derived.Test.YthjbodpeckebiaaGreatDoorRdnQ4
set_option linter.unusedSimpArgs false
set_option linter.unusedVariables false
-- StartLaw
namespace Go.Proofs.YthjbodpeckebiaaGreatDoor
open Go.RowKit
theorem lR (s:ByteArray) (hs:s.size<=100000) {m t:ByteArray} {k e:Int} (hr:da s=((m,t,k),e)) {mx:Int} (w:World) (hm:w.cell? ⟨0,0,none⟩=some (.int .i64 mx)):
 Calls Tryz.prog 137 #[.string s] w fun o w'=>o=.returned (.tuple #[.agg #[.string m,.string t,.int .i64 k,.int .i64 0,.string ⟨#[]⟩,.slice none 0 0],.int .i64 e])/\Below w.heap.size w w':=by
 by_cases h2:(bv 32 0 s.data.toList).length=2
 rotate_left
 ·rw[lQ h2] at hr
  obtain⟨⟨rfl,rfl,rfl⟩,rfl⟩:(⟨#[]⟩=m/\⟨#[]⟩=t/\0=k)/\3=e:=by simpa using hr
  exact jg s hs h2 w hm
 obtain⟨a,b,hab⟩:∃a b,bv 32 0 s.data.toList=[a,b]:=by
  match hq:bv 32 0 s.data.toList,h2 with
  | [a,b],_=>exact⟨a,b,rfl⟩
 obtain⟨k',f,hk⟩:∃k' f,aH (s.extract (b+1) s.size)=(k',f):=⟨_,_,rfl⟩;rw[reqE hab hk] at hr;by_cases hz:cn (f==0) f (cn (gj (s.extract (a+1) b).data.toList) 11 (cn (dV (s.extract 0 a).data.toList) 6 0))=0
 ·rw[if_pos hz] at hr
  obtain⟨⟨rfl,rfl,rfl⟩,rfl⟩:(s.extract 0 a=m/\s.extract (a+1) b=t/\k'=k)/\0=e:=by simpa using hr
  have:=kB s hs hab rfl rfl rfl hk rfl rfl rfl rfl rfl hz w hm;rw[hz] at this;exact this
 ·rw[if_neg hz] at hr
  obtain⟨h1,rfl⟩:=uC hr;obtain⟨rfl,h2⟩:=uC h1;obtain⟨rfl,rfl⟩:=uC h2;exact lT s hs hab rfl rfl rfl hk rfl rfl rfl rfl rfl hz w hm
end Go.Proofs.YthjbodpeckebiaaGreatDoor