/- Texts packed for one claim, 12 of 52: FParseR. -/
import Derived.Test.YthjbodpeckebiaaGreatDoorMrsQ6
import Derived.Test.YthjbodpeckebiaaGreatDoorMrsQ7
import Derived.Test.YthjbodpeckebiaaGreatDoorMrsQ11
import Derived.IntWalk
set_option maxRecDepth 100000
set_option maxHeartbeats 16000000
set_option linter.unusedSimpArgs false
set_option linter.unusedVariables false
-- FParseR
namespace Go.Proofs.YthjbodpeckebiaaGreatDoor
open Go.RowKit
theorem t5 (s:ByteArray) (k:Nat) (hk:k<=s.size) (hno:∀j,j<k->bt s j≠58) (hat:k=s.size\/bt s k=58):(bK s.data.toList).length=k:=by
 have hget:∀(j:Nat) (h:j<s.data.toList.length),((s.data.toList[j]'h).toNat:Int)=bt s j:=by
  intro j h;have h':j<s.size:=by simpa using h
  rw[aA s j h'];rfl
 have key:∀(l:List UInt8) (k:Nat),k<=l.length->(∀j (h:j<l.length),j<k->l[j]≠58)->(k=l.length\/∃h:k<l.length,l[k]=58)->(bK l).length=k:=by
  intro l;induction l with
  | nil=>intro k hk _ _;simp at hk;subst hk;rfl
  | cons a l ih=>
    intro k hk hno hat;cases k with
    | zero=>
      rcases hat with h|⟨h,e⟩
      ·simp at h
      ·have:a=58:=e
       subst this;rfl
    | succ k=>
      have ha:a≠58:=hno 0 (by simp) (by omega);have e2:bK (a :: l)=a :: bK l:=by unfold bK;rw[Gi];simp[ha]
      rw[e2,EQ,ih k (by simpa using hk) (fun j h hj=>hno (j+1) (by simpa using h) (by omega)) ?_];rcases hat with h|⟨h,e⟩
      ·exact Or.inl (by simpa using h)
      ·exact Or.inr ⟨by simpa using h,by simpa using e⟩
 have hz:s.data.toList.length=s.size:=by simp
 refine key s.data.toList k (by omega) (fun j h hj e=>?_) ?_
 ·have:=hget j h
  rw[e] at this;exact hno j hj this.symm
 ·rcases hat with h|h
  ·exact Or.inl (by omega)
  ·by_cases hlt:k<s.size
   ·refine Or.inr ⟨by omega,?_⟩
    have:=hget k (by omega);rw[h] at this;apply Fg.1;have e:(58:UInt8).toNat=58:=rfl;omega
   ·exact Or.inl (by omega)
theorem sl (s:ByteArray):s.extract 0 (bK s.data.toList).length=⟨(bK s.data.toList).toArray⟩:=by
 apply GU;apply Array.toList_inj.1;have:=qj s.data.toList;simpa using this
theorem rn (s:ByteArray) (k:Nat):s.extract k s.size=⟨(s.data.toList.drop k).toArray⟩:=by
 apply GU;apply Array.toList_inj.1;simp;rw[Fh (by simp)]
theorem tN (s:ByteArray) (hs:s.size<=1000000) (w:World):
 Calls Tryz.prog 127 #[.string s] w fun e w'=>e=.returned (.tuple #[.agg #[.string (aN s).1.1,.string (aN s).1.2],.int .i64 (aN s).2])/\Below w.heap.size w w':=by
 have HS:=lH hs;have hsi:(s.size:Int)<=1000000:=by omega
 clear hs;go_enter Tryz.func127,Tryz.ntmps127
 go_wp2_with fail
 go_loop [4] (fun v=>∃k:Nat,k<=s.size/\v=.int .i64 k/\∀j,j<k->bt s j≠58) (fun v=>s.size - (intOf v).toNat)
 case atStart=>exact⟨0,EN _,rfl,fun j hj=>absurd hj (FS _)⟩
 case round=>
  obtain⟨k,hk,rfl,hno⟩:=hrel;have HN:=lH hno;have hk0:(0:Int)<=(k:Int):=by omega
  clear hno;by_cases hkl:k<s.size
  ·have hix:∀W:World,(Instr.index 9 (.string s) (.int .i64 (k:Int))).run Tryz.prog W=.ok (.int .u8 (bt s k)) W:=aj s k hkl
   obtain⟨b,hb⟩:∃b,b=bt s k:=⟨_,rfl⟩;rw[<-hb] at hix;have HB:=lH hb;have hki:(k:Int)<(s.size:Int):=by omega
   clear hb;by_cases h58:b=58
   ·subst h58
    have HK:Hid ((bK s.data.toList).length=k):=t5 s k hk HN.out (Or.inr HB.out.symm);have hne:((k:Int)==(s.size:Int))=false:=by rw[EJ];omega
    obtain⟨P,hP⟩:∃P:ByteArray,P=⟨(bK s.data.toList).toArray⟩:=⟨_,rfl⟩;obtain⟨Q,hQ⟩:∃Q:ByteArray,Q=⟨(s.data.toList.drop (k+1)).toArray⟩:=⟨_,rfl⟩;have hPs:P.size<=s.size:=by rw[hP];exact qT s
    have hQs:Q.size<=s.size:=by rw[hQ];exact qF s _
    have s1:∀W:World,(Instr.slice 9 (.string s) none (some (.int .i64 (k:Int))) none).run Tryz.prog W=.ok (.string P) W:=fun W=>by
     rw[run_slice_string_h W 9 s Tryz.underlying9 .i64 (k:Int) (by omega) (by omega),EX,hP,<-sl,HK.out]
    have s2:∀W:World,(Instr.slice 9 (.string s) (some (.int .i64 ((k:Int)+1))) none none).run Tryz.prog W=.ok (.string Q) W:=fun W=>by
     rw[FR W 9 s Tryz.underlying9 .i64 ((k:Int)+1) (by omega) (by omega),show ((k:Int)+1).toNat=k+1 by omega,rn,hQ]
    have hwk:IntKind.i64.wrap ((k:Int)+1)=(k:Int)+1:=IntWalk.i64_in _ (by omega);have HPs:=lH (show P.size<=9223372036854775807 by have:=HS.out;omega);have HQs:=lH (show Q.size<=9223372036854775807 by have:=HS.out;omega);have hPl:P.data.toList=bK s.data.toList:=by rw[hP]
    have hQl:Q.data.toList=s.data.toList.drop (k+1):=by rw[hQ]
    have HV:Hid (aN s=if !dY P.data.toList then ((⟨#[]⟩,⟨#[]⟩),6) else if !ff Q.data.toList then ((⟨#[]⟩,⟨#[]⟩),7) else ((P,aX Q),0)):=by
     show aN s=_;unfold aN;rw[HK.out,if_neg (by omega),hPl,hQl,hP,hQ]
    clear HN hP hQ hPl hQl hPs hQs HB HK;cases htok:dY P.data.toList
    ·have htk:=fun W=>ke P HPs.out W
     rw[htok] at htk;have HT:=lH htk;have HF:=HV.out;rw[htok] at HF;have HF:=lH HF;clear htk htok HV s2 hwk;go_wp2_with (go_at_call 120;refine(HT.out _).mono ?_;rintro e' w' ⟨rfl,rfl⟩)
     rw[HF.out];exact EW (ai Tryz.results127 _ _ _ _ rfl (E7 _ _ _ _ _ _ _ (heap_alloc_new _ _) Tryz.underlying95 rfl (by kernel_rfl))) rfl ⟨rfl,(EK _ _).alloc (nR _) _⟩
    ·have htk:=fun W=>ke P HPs.out W
     rw[htok] at htk;have HT:=lH htk;cases hval:ff Q.data.toList
     ·have hvl:=fun W=>fM Q HQs.out W
      rw[hval] at hvl;have HW:=lH hvl;have HF:=HV.out;rw[htok,hval] at HF;have HF:=lH HF;clear htk htok hvl hval HV hwk;go_wp2_with (first|(go_at_call 120;refine(HT.out _).mono ?_;rintro e' w' ⟨rfl,rfl⟩)|(go_at_call 125;refine(HW.out _).mono ?_;rintro e' w' ⟨rfl,rfl⟩))
      rw[HF.out];exact EW (ai Tryz.results127 _ _ _ _ rfl (E7 _ _ _ _ _ _ _ (heap_alloc_new _ _) Tryz.underlying95 rfl (by kernel_rfl))) rfl ⟨rfl,(EK _ _).alloc (nR _) _⟩
     ·have hvl:=fun W=>fM Q HQs.out W
      rw[hval] at hvl;have HW:=lH hvl;have HF:=HV.out;rw[htok,hval] at HF;have HF:=lH HF;obtain⟨R,hR⟩:∃R,R=aX Q:=⟨_,rfl⟩;have htr:∀W,Calls Tryz.prog 158 #[.string Q] W fun e w'=>e=.returned (.string R)/\w'=W:=fun W=>(gG Q HQs.out W).mono fun _ _ ⟨a,b⟩=>⟨by rw[hR];exact a,b.symm⟩;have HR:=lH hR;have HTR:=lH htr;clear htk htok hvl hval HV hR htr;go_wp2_with (first|(go_at_call 120;refine(HT.out _).mono ?_;rintro e' w' ⟨rfl,rfl⟩)|(go_at_call 125;refine(HW.out _).mono ?_;rintro e' w' ⟨rfl,rfl⟩))
      refine aE 9 (by kernel_rfl) (by kernel_rfl) ?_;simp only[Ft,FG,Fz,Ff];repeat go_big_quiet_step ((go_at_call 158;exact Calls.quiet_of_same (HTR.out _)))
      refine FD ?_;rintro _ ⟨n1q,rfl⟩;go_wp2_with fail
      rw[HF.out,<-HR.out];exact EW (ai Tryz.results127 _ _ _ _ rfl (E7 _ _ _ _ _ _ _ (cC ((af.new w EH 95).drewN n1q) _ _) Tryz.underlying95 rfl (by kernel_rfl))) rfl ⟨rfl,((eN ((EK _ _).alloc (nR _) _) n1q).setCell (nR _) _).setCell (nR _) _⟩
   ·have h58':(b != 58)=true:=by rw[FP];exact h58
    have hx:bt s k≠58:=by rw[<-HB.out];exact h58
    have HX:=lH hx;clear HB h58 hx;go_wp2_with fail
    go_round
    case rel=>
     refine⟨k+1,by omega,by go_num,fun j hj=>?_⟩;by_cases e:j=k
     ·subst e;exact HX.out
     ·exact HN.out j (by omega)
    case measure=>simp[intOf];omega
  ·have hke:k=s.size:=by omega
   have HK:Hid ((bK s.data.toList).length=k):=t5 s k hk HN.out (Or.inl hke)
   have HF:Hid (aN s=((⟨#[]⟩,⟨#[]⟩),3)):=by
    show aN s=_;unfold aN;rw[if_pos (by rw[HK.out,hke])]
   clear HN HK;subst hke;go_wp2_with fail
   rw[HF.out];exact EW (ai Tryz.results127 _ _ _ _ rfl (E7 _ _ _ _ _ _ _ (heap_alloc_new _ _) Tryz.underlying95 rfl (by kernel_rfl))) rfl ⟨rfl,(EK _ _).alloc (nR _) _⟩
end Go.Proofs.YthjbodpeckebiaaGreatDoor