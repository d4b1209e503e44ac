/-
  Put together out of 1 texts.
-/
import Derived.Test.YtfgkfcfplodaoaaGreatDoorK15
import Derived.Test.YtfgkfcfplodaoaaGreatDoorK2
set_option linter.unusedSimpArgs false
set_option linter.unusedVariables false
set_option maxRecDepth 100000
set_option maxHeartbeats 64000000
namespace Go.Proofs.YtfgkfcfplodaoaaGreatDoor
open Go Go.RowKit
section
def ChArg (w:ByteArray)(ns:List Int):Prop:=(w=startW∧∃a b,ns=[a,b])∨(w=rootW∧ns=[])∨(w=proofW∧∃a,ns=[a])
theorem num_start (d:TDesk)(a b:Int):numD d startW [a,b]=startD d a b:=by
 show twoD d startW a b=_
 unfold twoD
 rw [if_pos rfl]
theorem num_root (d:TDesk):numD d rootW []=(d,hexS (tree (idsD d.1))):=by
 show(d,bareD d rootW)=_
 unfold bareD
 rw [if_pos rfl]
theorem num_proof (d:TDesk)(a:Int):numD d proofW [a]=(d,proofD d a):=by
 show oneD d proofW a=_
 unfold oneD
 rw [if_pos rfl]
def asEvSpC0:List (List Nat):=[[],[0],[0,1],[],[3],[3,4],[0,1,2,3,4,5],[],[7],[7,8],[7,8,9],[],[11],[11,12],[11,12,13],[11,12,13,14],[11,12,13,14,15],[0,1,2,3,4,5,6,7,8,9,10,11,12,13,14,15,16],[0,1,2,3,4,5,6,7,8,9,10,11,12,13,14,15,16,17],[0,1,2,3,4,5,6,7,8,9,10,11,12,13,14,15,16,17,18],[0,1,2,3,4,5,6,7,8,9,10,11,12,13,14,15,16,17,18],[],[0,1,2,3,4,5,6,7,8,9,10,11,12,13,14,15,16,17,18,19,21],[0,1,2,3,4,5,6,7,8,9,10,11,12,13,14,15,16,17,18,19,20,21,22]]
theorem chainD_s:SoundO Tryz.prog 111 (fun x:TNum=>deskOk x.1∧ChArg x.2.1 x.2.2) 30 6 (fun x=>dkRows x.1) encNum (fun x=>dkRows (numD x.1 x.2.1 x.2.2).1) resNum:=by
 refine SoundO.of Tryz.func111 rfl Tryz.ntmps111 ?_
 rintro⟨⟨L,⟨⟨p,s⟩,st,⟨⟨h1,h2,h3,h4,h5,h6⟩,v⟩,⟨l,n⟩,⟨q,m⟩,now⟩,hs⟩,wd,ns⟩ γ0 w ⟨hx,hA⟩ hγ
 refine⟨by simp,?_⟩
 simp only [frE,initO]
 generalize hFW:(fun k:Nat=>w.heap[k]?)=FW
 generalize hFO:(fun b:Nat=>γ0 b=some 998)=FO
 replace hx:deskOk (L,((p,s),st,((h1,h2,h3,h4,h5,h6),v),(l,n),(q,m),now),hs):=hx
 replace hA:ChArg wd ns:=hA
 have hΓ:=env_cons (hsO Tryz.func154) newS_s (env_cons (hsO Tryz.func155) yes_s (env_cons (hsO Tryz.func157) idsS_s (env_cons (hsO Tryz.func156) treeS_s (env_cons (hsO Tryz.func12) hexS_s (env_cons (hsO Tryz.func158) tpathS_s (env_cons (hsO Tryz.func41) decZS_s env_nil))))))
 have hlen:=bkRows_len L
 have hch:chOk L:=hx.1
 have hL12:L.length≤12:=hch.1
 clear hx
 rcases hA with⟨rfl,na,nb,rfl⟩|⟨rfl,rfl⟩|⟨rfl,na,rfl⟩
 ·have t0:decide (startW=(⟨#[115,116,97,114,116]⟩:ByteArray))=true:=by decide
  generalize hwd:startW=wd at*
  have hv:=num_start (L,((p,s),st,((h1,h2,h3,h4,h5,h6),v),(l,n),(q,m),now),hs) na nb
  rw [hwd]at hv
  have hS:startD (L,((p,s),st,((h1,h2,h3,h4,h5,h6),v),(l,n),(q,m),now),hs) na nb=if L.length=0 then((L,((p,s),st,((h1,h2,h3,h4,h5,h6),v),(l,n),(q,m),now),hs),noneW)else if newB (na,nb) (L.getD 0 zBk) (L.getD 0 zBk).1.2.1=true then((L,newX (na,nb) (L.getD 0 zBk) (L.getD 0 zBk).1.2.1,true),okS)else((L,((p,s),st,((h1,h2,h3,h4,h5,h6),v),(l,n),(q,m),now),hs),noS):=rfl
  rw [hS]at hv
  clear hS hwd
  have ha0:(rowsF cInt [na,nb])[0]?=some [.sc (.int .i64 na)]:=rfl
  have ha1:(rowsF cInt [na,nb])[1]?=some [.sc (.int .i64 nb)]:=rfl
  generalize hRM:rowsF cInt [na,nb]=RM at*
  clear hRM
  rcases Nat.eq_zero_or_pos L.length with h0|h0
  ·rw [if_pos h0]at hv
   have hL:L=[]:=List.length_eq_zero_iff.1 h0
   subst hL
   have hnil:bkRows []=[]:=rfl
   replace hv:=Lib.hid hv
   clear hch
   refine zR ?_
   subst hFW;subst hFO
   refine At.retOA 997 (by rw [Tryz.results111]) hγ (hrows:=?_) (he:=?_)
   ·rw [hv.out]
   ·dsimp only [resNum]
    rw [hv.out]<;>rfl
  ·rw [if_neg (by omega),bkD_get h0]at hv
   have hok:=(hch.2 0 h0).1
   have hrow:=bkRow_at L 0 h0
   have c1:=mNew_eq (na,nb) L[0] L[0].1.2.1 hok
   clear hch hok
   generalize L[0]=B at*
   have c2:=mOkay_eq (newB (na,nb) B B.1.2.1)
   generalize hz:newB (na,nb) B B.1.2.1=z at*
   obtain⟨⟨x1,x2,x3,x4,x5,x6⟩,b1,b2,⟨ch,cr,ci,cs⟩⟩:=B
   dsimp only [newX,aBk,rowsCm,bkRow]at hv hrow c1
   clear hz
   have hne:decide (((bkRows L).length:Int)=0)=false:=dcF (by omega)
   cases z with
   |true=>
    dsimp only [rNew]at c1
    rw [if_pos rfl]at hv c1 c2
    replace hv:=Lib.hid hv
    refine zR ?_
    refine W.lateB hΓ 22 asEvSpC0 [20] (rest:=?rest5) (Es:=?Es5) (st1:=?st15) (stA:=?stA5) (t:=?t5) (x:=?x5) (y:=?y5) (ty:=?ty5) (pos:=?pos5) (after:=?af5) (n:=?n5) (b:=?b5) ?_
    refine zQ ?_
    refine W.drawB hΓ 3 [[],[],[1],[0,1,2],[0,1,2,3]] (Es:=?Es7) (rest:=?rest7) (st1:=?st17) ?_
    refine zQ ?_
    refine At.frzX 6 9036 (h:=?_)
    subst hFW;subst hFO
    refine At.retOA 10036 (by rw [Tryz.results111]) hγ (hrows:=?_) (he:=?_)
    ·rw [hv.out]
    ·dsimp only [resNum]
     rw [hv.out]<;>rfl
   |false=>
    dsimp only [rNew]at c1
    rw [if_neg Bool.false_ne_true]at hv c1 c2
    replace hv:=Lib.hid hv
    refine zR ?_
    refine W.lateB hΓ 22 asEvSpC0 [20] (rest:=?rest11) (Es:=?Es11) (st1:=?st111) (stA:=?stA11) (t:=?t11) (x:=?x11) (y:=?y11) (ty:=?ty11) (pos:=?pos11) (after:=?af11) (n:=?n11) (b:=?b11) ?_
    refine zQ ?_
    refine W.drawB hΓ 3 [[],[],[1],[0,1,2],[0,1,2,3]] (Es:=?Es13) (rest:=?rest13) (st1:=?st113) ?_
    refine zQ ?_
    subst hFW;subst hFO
    refine At.retOA 997 (by rw [Tryz.results111]) hγ (hrows:=?_) (he:=?_)
    ·rw [hv.out]
    ·dsimp only [resNum]
     rw [hv.out]<;>rfl
 ·have t0:decide (rootW=(⟨#[115,116,97,114,116]⟩:ByteArray))=false:=by decide
  have t1:decide (rootW=(⟨#[114,111,111,116]⟩:ByteArray))=true:=by decide
  generalize hwd:rootW=wd at*
  have hv:=num_root (L,((p,s),st,((h1,h2,h3,h4,h5,h6),v),(l,n),(q,m),now),hs)
  rw [hwd]at hv
  have c1:=mIdsS_eq L (by omega)
  have hid:=idsD_ok hL12
  have c2:=mTree_eq (idsD L) hid
  have ht:=tree_size (idsD L)
  have c3:=mHex_eq (tree (idsD L)) (by omega)
  dsimp only at hv
  clear hch hid hwd
  generalize idsD L=I at*
  generalize tree I=T at*
  generalize hexS T=XX at*
  replace hv:=Lib.hid hv
  refine zR ?_
  refine W.drawB hΓ 6 [[],[],[1],[1,2],[1,2,3],[1,2,3,4],[0,1,2,3,4,5],[0,1,2,3,4,5,6]] (Es:=?Es17) (rest:=?rest17) (st1:=?st117) ?_
  refine zQ ?_
  subst hFW;subst hFO
  refine At.retOA 997 (by rw [Tryz.results111]) hγ (hrows:=?_) (he:=?_)
  ·rw [hv.out]
  ·dsimp only [resNum]
   rw [hv.out]<;>rfl
 ·have t0:decide (proofW=(⟨#[115,116,97,114,116]⟩:ByteArray))=false:=by decide
  have t1:decide (proofW=(⟨#[114,111,111,116]⟩:ByteArray))=false:=by decide
  generalize hwd:proofW=wd at*
  have hv:=num_proof (L,((p,s),st,((h1,h2,h3,h4,h5,h6),v),(l,n),(q,m),now),hs) na
  rw [hwd]at hv
  have hP:proofD (L,((p,s),st,((h1,h2,h3,h4,h5,h6),v),(l,n),(q,m),now),hs) na=if 0≤bkAt L na then decT (pathL (bkAt L na).toNat (idsD L)).length else noneW:=rfl
  rw [hP]at hv
  clear hP hwd
  have ha0:(rowsF cInt [na])[0]?=some [.sc (.int .i64 na)]:=rfl
  generalize hRM:rowsF cInt [na]=RM at*
  clear hRM
  have hw:=bkAt_ch hch na
  rcases hw with⟨k,hk,e1,e⟩|⟨e1,e⟩
  ·rw [e,if_pos (by omega),Int.toNat_natCast]at hv
   have c1:=mIdsS_eq L (by omega)
   have hid:=idsD_ok hL12
   have hidl:=idsD_len L
   have ek:na-1=(k:Int):=by omega
   have c3:=mPa_eq (idsD L) k ⟨⟨by omega,by omega⟩,hid.2⟩ (by omega)
   have hpl:=pathL_len _ k (idsD L) rfl
   have c4:=mDecZ_eq ((pathL k (idsD L)).length:Int) ⟨by omega,by omega⟩
   have hrl:=rowsF_len cStr (pathL k (idsD L))
   have hn1:1≤na:=by omega
   have hn2:na≤12:=by omega
   have hb0:decide (na<1)=false:=dcF (by omega)
   have hb1:decide ((L.length:Int)<na)=false:=dcF (by omega)
   clear hch hid e e1
   generalize idsD L=I at*
   generalize pathL k I=T at*
   replace hidl:=Lib.hid hidl
   replace hv:=Lib.hid hv
   refine zR ?_
   refine W.drawB hΓ 13 [[],[0],[0,1],[0,1,2],[0,1,2,3],[0,1,2,3,4],[0,1,2,3,4,5],[0,1,2,3,4,5,6],[0,1,2,3,4],[0,1,2,3,4,8],[0,1,2,3,4,8,9],[0,1,2,3,4,5,6,7,8,9,10],[0,1,2,3,4,5,6,7,8,9,10,11]] (Es:=?Es21) (rest:=?rest21) (st1:=?st121) ?_
   refine zQ ?_
   refine W.drawB hΓ 11 [[],[],[1],[1,2],[],[4],[4,5],[4,5,6],[1,2,3,4,5,6,7],[1,2,3,4,5,6,7,8],[1,2,3,4,5,6,7,8,9],[0,1,2,3,4,5,6,7,8,9,10],[0,1,2,3,4,5,6,7,8,9,10,11]] (Es:=?Es23) (rest:=?rest23) (st1:=?st123) ?_
   refine zQ ?_
   subst hFW;subst hFO
   refine At.retOA 997 (by rw [Tryz.results111]) hγ (hrows:=?_) (he:=?_)
   ·rw [hv.out]
   ·dsimp only [resNum]
    rw [hv.out]<;>rfl
  ·rw [e,if_neg (by omega)]at hv
   clear hch e
   replace hv:=Lib.hid hv
   rcases e1 with e1|e1
   ·have hb0:decide (na<1)=true:=dcT e1
    refine zR ?_
    refine W.drawB hΓ 13 [[],[0],[0,1],[0,1,2],[0,1,2,3],[0,1,2,3,4],[0,1,2,3,4,5],[0,1,2,3,4,5,6],[0,1,2,3,4],[0,1,2,3,4,8],[0,1,2,3,4,8,9],[0,1,2,3,4,5,6,7,8,9,10],[0,1,2,3,4,5,6,7,8,9,10,11]] (Es:=?Es27) (rest:=?rest27) (st1:=?st127) ?_
    refine zQ ?_
    subst hFW;subst hFO
    refine At.retOA 997 (by rw [Tryz.results111]) hγ (hrows:=?_) (he:=?_)
    ·rw [hv.out]
    ·dsimp only [resNum]
     rw [hv.out]<;>rfl
   ·have hb0:decide (na<1)=false:=dcF (by omega)
    have hb1:decide ((L.length:Int)<na)=true:=dcT e1
    refine zR ?_
    refine W.drawB hΓ 13 [[],[0],[0,1],[0,1,2],[0,1,2,3],[0,1,2,3,4],[0,1,2,3,4,5],[0,1,2,3,4,5,6],[0,1,2,3,4],[0,1,2,3,4,8],[0,1,2,3,4,8,9],[0,1,2,3,4,5,6,7,8,9,10],[0,1,2,3,4,5,6,7,8,9,10,11]] (Es:=?Es31) (rest:=?rest31) (st1:=?st131) ?_
    refine zQ ?_
    subst hFW;subst hFO
    refine At.retOA 997 (by rw [Tryz.results111]) hγ (hrows:=?_) (he:=?_)
    ·rw [hv.out]
    ·dsimp only [resNum]
     rw [hv.out]<;>rfl
end
end Go.Proofs.YtfgkfcfplodaoaaGreatDoor
