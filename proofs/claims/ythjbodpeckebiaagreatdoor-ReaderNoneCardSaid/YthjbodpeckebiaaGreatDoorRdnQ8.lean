/- Texts packed for one claim, 8 of 48: Goes. -/
import Derived.Test.YthjbodpeckebiaaGreatDoorRdnQ6
import Derived.Test.YthjbodpeckebiaaGreatDoorRdnQ7
import Derived.Shelf.Strings.SlTrimAscii
import Derived.IntWalk
set_option maxRecDepth 100000
set_option maxHeartbeats 16000000
set_option linter.unusedSimpArgs false
set_option linter.unusedVariables false
-- Goes
namespace Go.Proofs.YthjbodpeckebiaaGreatDoor
open Go.RowKit
def nE (s:ByteArray):Bool:=match s.data.toList with
 | []=>false
 | b :: _=>b==32||b==9
def se (s:ByteArray):ByteArray:=⟨(Lib.trimRightS s.data.toList [32,9]).toArray⟩
theorem jF (s:ByteArray):(se s).size<=s.size:=by
 have h1:(Lib.trimRightS s.data.toList [32,9]).length<=s.data.toList.length:=by
  unfold Lib.trimRightS;rw[List.length_reverse];refine nT (List.dropWhile_sublist _).length_le ?_;rw[List.length_reverse];exact nR _
 show (Lib.trimRightS s.data.toList [32,9]).toArray.size<=_;simpa using h1
theorem qb (s:ByteArray) (hs:s.size<=9223372036854775807) (w:World):Calls Tryz.prog 171 #[.string s,.string ⟨#[32,9]⟩] w fun e w'=>e=.returned (.string (se s))/\Below w.heap.size w w':=
 Any.strings_TrimRight_laid Tryz.lays162 (by kernel_rfl) s ⟨#[32,9]⟩ w hs (by decide) (fun j b h=>by
  have e:(⟨#[32,9]⟩:ByteArray).data.toList=[32,9]:=rfl;rw[e] at h;match j,h with
  | 0,h=>simp at h;subst h;decide
  | 1,h=>simp at h;subst h;decide)
theorem nS (l:List UInt8) (c:UInt8):Lib.hasPrefix l [c]=(match l with | []=>false|b :: _=>b==c):=by
 cases l with
 | nil=>simp[Lib.hasPrefix]
 | cons b l=>
   simp only[Lib.hasPrefix,List.isPrefixOf];rw[Bool.and_true,uU,uB,uB];exact eq_comm
theorem lp (s:ByteArray) (w:World):Calls Tryz.prog 173 #[.string s] w fun e w'=>e=.returned (.bool (nE s))/\w=w':=by
 have h1:=fun W=>Tryz.strings_HasPrefix s ⟨#[32]⟩ W;have h2:=fun W=>Tryz.strings_HasPrefix s ⟨#[9]⟩ W;have e1:(⟨#[32]⟩:ByteArray).data.toList=[32]:=rfl;have e2:(⟨#[9]⟩:ByteArray).data.toList=[9]:=rfl;rw[e1,nS] at h1;rw[e2,nS] at h2;unfold nE;cases hl:s.data.toList with
 | nil=>
   rw[hl] at h1 h2;have H1:=lH h1;have H2:=lH h2;clear h1 h2 e1 e2 hl;go_enter Tryz.func173,Tryz.ntmps173
   go_wp2_with (go_at_call 205;first|(refine(H1.out _).mono ?_;rintro e' w' ⟨rfl,rfl⟩)|(refine(H2.out _).mono ?_;rintro e' w' ⟨rfl,rfl⟩))
   go_ret;exact⟨rfl,rfl⟩
 | cons b l=>
   rw[hl] at h1 h2;dsimp only at h1 h2
   obtain⟨p,hp⟩:∃p,p=(b==32):=⟨_,rfl⟩;obtain⟨q,hq⟩:∃q,q=(b==9):=⟨_,rfl⟩;rw[<-hp] at h1;rw[<-hq] at h2;have HV:Hid ((b==32||b==9)=(p||q)):=by show _=_;rw[hp,hq]
   have H1:=lH h1;have H2:=lH h2;clear h1 h2 e1 e2 hl hp hq;cases p
   ·go_enter Tryz.func173,Tryz.ntmps173
    go_wp2_with (go_at_call 205;first|(refine(H1.out _).mono ?_;rintro e' w' ⟨rfl,rfl⟩)|(refine(H2.out _).mono ?_;rintro e' w' ⟨rfl,rfl⟩))
    go_ret;dsimp only
    rw[HV.out];exact⟨rfl,rfl⟩
   ·go_enter Tryz.func173,Tryz.ntmps173
    go_wp2_with (go_at_call 205;first|(refine(H1.out _).mono ?_;rintro e' w' ⟨rfl,rfl⟩)|(refine(H2.out _).mono ?_;rintro e' w' ⟨rfl,rfl⟩))
    go_ret;dsimp only
    rw[HV.out];exact⟨rfl,rfl⟩
end Go.Proofs.YthjbodpeckebiaaGreatDoor