/-
  Put together out of 1 texts.
-/
import Derived.Test.YtfgkfcfplodaoaaGreatDoorG24
import Derived.Test.YtfgkfcfplodaoaaGreatDoorK14
import Derived.Test.YtfgkfcfplodaoaaGreatDoorK20
import Derived.Test.YtfgkfcfplodaoaaGreatDoorG18
import Derived.Test.YtfgkfcfplodaoaaGreatDoorG20
set_option linter.unusedSimpArgs false
set_option linter.unusedVariables false
set_option maxRecDepth 100000
set_option maxHeartbeats 16000000
namespace Go.Proofs.YtfgkfcfplodaoaaGreatDoor
open Go Go.RowKit
section
noncomputable def mBeg:=mdl (fun x:ByteArray×ByteArray=>x.1.size≤1048576∧x.2.size≤1048576) (fun x=>[aS x.1,aS x.2]) (fun x=>rB (decide (x.1.size≤x.2.size∧x.2.extract 0 x.1.size=x.1)))
theorem mBeg_eq (a s:ByteArray)(h1:a.size≤1048576)(h2:s.size≤1048576):mBeg [aS a,aS s]=some (rB (decide (a.size≤s.size∧s.extract 0 a.size=a))):=mdl_eq (enc:=fun x:ByteArray×ByteArray=>[aS x.1,aS x.2]) (by
 rintro⟨a,b⟩ ⟨a',b'⟩ h
 simpa using h) (a,s) ⟨h1,h2⟩
theorem begins_s:Sound Tryz.prog 16 mBeg:=by
 refine Sound.mdl Tryz.func16 rfl Tryz.ntmps16 ?_
 rintro⟨a,s⟩ w ⟨ha,hs⟩
 refine⟨by simp,?_⟩
 dsimp only at ha hs
 have hΓ:=eN
 refine zI ?_
 by_cases h1:a.size≤s.size
 ·by_cases h2:s.extract 0 a.size=a
  ·have hv:decide (a.size≤s.size∧s.extract 0 a.size=a)=true:=dcT ⟨h1,h2⟩
   have t2:decide (s.extract 0 a.size=a)=true:=dcT h2
   replace hv:=Lib.hid hv
   clear h2
   refine zR ?_
   refine At.retA (by rw [Tryz.results16]) (he:=?_)
   rw [hv.out]
  ·have hv:decide (a.size≤s.size∧s.extract 0 a.size=a)=false:=dcF fun q=>h2 q.2
   have t2:decide (s.extract 0 a.size=a)=false:=dcF h2
   replace hv:=Lib.hid hv
   clear h2
   refine zR ?_
   refine At.retA (by rw [Tryz.results16]) (he:=?_)
   rw [hv.out]
 ·have hv:decide (a.size≤s.size∧s.extract 0 a.size=a)=false:=dcF fun q=>h1 q.1
  replace hv:=Lib.hid hv
  refine zR ?_
  refine At.retA (by rw [Tryz.results16]) (he:=?_)
  rw [hv.out]
theorem lawFnDesk_s:Sound Tryz.prog 5 (mdl (fun bs:List Nat=>bs.length≤9223372036854775807∧∀n∈bs,n<256) (fun bs=>[aL cU8 bs]) fun _=>rB true):=by
 refine Sound.mdl Tryz.func5 rfl Tryz.ntmps5 ?_
 rintro bs w ⟨hlen,hbs⟩
 refine⟨by simp,?_⟩
 have hΓ:=env_cons (hsO Tryz.func8) big_s (env_cons (hsO Tryz.func9) at_s (env_cons (hsO Tryz.func11) deskI_s (env_cons (hsO Tryz.func14) deskS_s (env_cons (hsO Tryz.func16) begins_s env_nil))))
 have hDr:Has Tryz.prog 15:=hsO Tryz.func15
 have cb:=mBig_eq bs hlen
 by_cases hbig:1048576<bs.length
 ·rw [decide_eq_true hbig]at cb
  refine zJ ?_
  refine At.retA (by rw [Tryz.results5]) (he:=rfl)
 ·rw [decide_eq_false hbig]at cb
  have hcode:CodeOk bs:=.le (by omega) hbs
  have hok0:okAt (bs,0):=⟨⟨hbs,show bs.length≤_ by omega⟩,(by show(0:Int)≤0;decide),(by show(0:Int)≤1000;decide)⟩
  have ca0:=mAt_eq bs 0 hok0
  have r0:=atC_range hok0
  clear hlen hbs hok0
  generalize atC bs 0=x0 at*
  have hm:=tmod_in (a:=x0) (m:=9) r0.1 (by decide)
  obtain⟨kk,hkk⟩:∃kk:Nat,1+x0.tmod 9=(kk:Int):=⟨(1+x0.tmod 9).toNat,by omega⟩
  have hk1:kk≤9:=by omega
  clear hm
  refine zI ?_
  refine zV ?_
  refine WL.opRA hDr DrawDesk_s bs hcode (h:=?_)
  rintro s hs
  replace hs:s.size≤4000:=hs
  refine zM ?_
  have c1:=mDeskI_eq s (by omega)
  have c2:=mDeskS_eq s (by omega)
  obtain⟨hA,hB⟩:=desk_law s (by omega) kk
  have hO:=deskI_size s
  have hI0:=InvD.zero s kk
  generalize deskI s=O at*
  replace hA:=Lib.hid hA
  replace hB:=Lib.hid hB
  clear hcode hbig
  refine zR ?_
  refine W.loopA (InvD s kk) (fun x=>[.slot 3 (vS s),.slot 4 (vS O),.slot 5 (vI x.2.2.2.2),.slot 6 (vI x.2.1),.slot 7 (vI x.2.2.1),.slot 8 (vI kk),.slot 9 (vI x.2.2.2.1),.slot 10 (vI x.1)]) (fun x=>s.size+1-x.1) (0,0,0,0,0) hI0 (h:=?_)
  clear hI0 cb ca0 r0 hkk c1 c2
  rintro⟨i,n,m,p,c⟩ hI
  have hit:=hI.top
  dsimp only
  have hN:=byteN_eq s
  by_cases hle:i≤s.size
  ·obtain⟨z1,z2,z3,z4⟩:=hI.bounds hle
   by_cases hlt:i<s.size
   ·have ib:=byte_at hlt
    have bl:=byteN_lt s i
    by_cases hb:byteN s i=10
    ·have hb':((byteN s i:Nat):Int)=10:=by omega
     have hn:=hI.line hlt hb
     clear hI hb
     by_cases hp:p<i
     ·rw [if_pos hp]at hn
      by_cases hc:n+1=kk
      ·rw [if_pos hc]at hn
       subst hc
       replace hn:=Lib.hid hn
       refine zR ?_
       exact At.roundA (i+1,n+1,m+1,i+1,i+1) hn.out (by dsimp only;omega)
      ·rw [if_neg hc]at hn
       replace hn:=Lib.hid hn
       refine zR ?_
       exact At.roundA (i+1,n+1,m+1,i+1,c) hn.out (by dsimp only;omega)
     ·rw [if_neg hp]at hn
      by_cases hc:n+1=kk
      ·rw [if_pos hc]at hn
       subst hc
       replace hn:=Lib.hid hn
       refine zR ?_
       exact At.roundA (i+1,n+1,m,i+1,i+1) hn.out (by dsimp only;omega)
      ·rw [if_neg hc]at hn
       replace hn:=Lib.hid hn
       refine zR ?_
       exact At.roundA (i+1,n+1,m,i+1,c) hn.out (by dsimp only;omega)
    ·have hb':¬((byteN s i:Nat):Int)=10:=by omega
     have hn:=hI.skip hlt hb
     clear hI hb
     replace hn:=Lib.hid hn
     refine zR ?_
     exact At.roundA (i+1,n,m,p,c) hn.out (by dsimp only;omega)
   ·obtain rfl:i=s.size:=by omega
    by_cases hp:p=s.size
    ·have hn:=hI.endS hp
     clear hI
     subst hp
     replace hn:=Lib.hid hn
     refine zR ?_
     exact At.roundA (s.size+1,n,m,s.size,c) hn.out (by dsimp only;omega)
    ·have hn:=hI.endL hp (s.size+1)
     clear hI
     have hp':p<s.size:=by omega
     replace hn:=Lib.hid hn
     by_cases hc:n+1=kk
     ·subst hc
      refine zR ?_
      exact At.roundA (s.size+1,n+1,m+1,s.size+1,c) hn.out (by dsimp only;omega)
     ·refine zR ?_
      exact At.roundA (s.size+1,n+1,m+1,s.size+1,c) hn.out (by dsimp only;omega)
  ·obtain⟨e1,e2,e3,e4⟩:=hI.done hle
   obtain rfl:i=s.size+1:=by omega
   have hn1:n≤4001:=by
    have:=(linesI_small s).1
    omega
   have hm1:m≤4001:=by
    have:=fulC_le (linesI s)
    omega
   replace hA:=hA.out
   replace hB:=hB.out
   rw [←e1]at hA hB
   rw [←e2,←e3]at hB
   clear hI e1 e2 e3 hN
   by_cases hl:80<n
   ·have hOe:=hA hl
    subst hOe
    clear hA hB hO
    have t5:decide (ByteArray.empty=(⟨#[]⟩:ByteArray))=true:=by decide
    refine zR ?_
    refine At.retA (by rw [Tryz.results5]) (he:=rfl)
   ·obtain⟨f1,t,f2⟩:=hB hl
    clear hA hB
    have hF:=deskI_size (s.extract 0 c)
    have hz:(s.extract 0 c).size≤4000:=by rw [ByteArray.size_extract];omega
    have c3:=mDeskI_eq (s.extract 0 c) (by omega)
    have c4:=mBeg_eq (deskI (s.extract 0 c)) O (by omega) (by omega)
    generalize deskI (s.extract 0 c)=F at*
    have hbg:=begins_app F t
    rw [←f2]at hbg
    rw [decide_eq_true hbg]at c4
    have hN:=byteN_eq O
    have hnl:nlK O O.size=m:=f1
    replace hnl:=Lib.hid hnl
    clear f1 f2 hbg hF hz
    refine zR ?_
    refine W.loopA (fun x:Nat×Nat=>x.1≤O.size∧x.2=nlK O x.1∧x.2≤x.1) (fun x=>[.slot 3 (vS s),.slot 4 (vS O),.slot 5 (vI c),.slot 7 (vI m),.slot 11 (vI x.2),.slot 12 (vI x.1)]) (fun x=>O.size-x.1) (0,0) ⟨Nat.zero_le _,rfl,Nat.le_refl _⟩ (h:=?_)
    rintro⟨j,q⟩ ⟨hj,hq,hqj⟩
    dsimp only at hj hq hqj⊢
    by_cases hlt:j<O.size
    ·have ib:=byte_at hlt
     have bl:=byteN_lt O j
     have hsu:nlK O (j+1)=nlK O j+if byteN O j=10 then 1 else 0:=rfl
     by_cases hb:byteN O j=10
     ·have hb':((byteN O j:Nat):Int)=10:=by omega
      rw [if_pos hb,←hq]at hsu
      replace hsu:=Lib.hid hsu
      clear hb hq
      refine zR ?_
      exact At.roundA (j+1,q+1) ⟨hlt,hsu.out.symm,by dsimp only;omega⟩ (by dsimp only;omega)
     ·have hb':¬((byteN O j:Nat):Int)=10:=by omega
      rw [if_neg hb,←hq]at hsu
      replace hsu:=Lib.hid hsu
      clear hb hq
      refine zR ?_
      exact At.roundA (j+1,q) ⟨hlt,hsu.out.symm,by dsimp only;omega⟩ (by dsimp only;omega)
    ·obtain rfl:j=O.size:=by omega
     have hqm:q=m:=by rw [hq,hnl.out]
     clear hq hN
     subst hqm
     refine zR ?_
     refine At.retA (by rw [Tryz.results5]) (he:=rfl)
end
end Go.Proofs.YtfgkfcfplodaoaaGreatDoor
