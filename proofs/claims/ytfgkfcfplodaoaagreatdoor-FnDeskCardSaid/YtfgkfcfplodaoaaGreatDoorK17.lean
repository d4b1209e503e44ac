/-
  Put together out of 1 texts.
-/
import Derived.Test.YtfgkfcfplodaoaaGreatDoorK15
import Derived.Test.YtfgkfcfplodaoaaGreatDoorG10
set_option linter.unusedSimpArgs false
set_option linter.unusedVariables false
set_option maxRecDepth 100000
set_option maxHeartbeats 64000000
namespace Go.Proofs.YtfgkfcfplodaoaaGreatDoor
open Go Go.RowKit
section
theorem lightE_s:SoundO Tryz.prog 112 (fun x:TNum=>deskOk x.1∧LtOne x.2.1 x.2.2) 30 6 (fun x=>dkRows x.1) encNum (fun x=>dkRows (numD x.1 x.2.1 x.2.2).1) resNum:=by
 refine SoundO.of Tryz.func112 rfl Tryz.ntmps112 ?_
 rintro⟨⟨L,⟨⟨p,s⟩,st,⟨⟨h1,h2,h3,h4,h5,h6⟩,v⟩,⟨l,n⟩,⟨q,m⟩,now⟩,hs⟩,wd,ns⟩ γ0 w ⟨hx,hA⟩ hγ
 refine⟨by simp,?_⟩
 simp only [frE,initO]
 generalize hFW:(fun k:Nat=>w.heap[k]?)=FW
 generalize hFO:(fun b:Nat=>γ0 b=some 998)=FO
 replace hx:deskOk (L,((p,s),st,((h1,h2,h3,h4,h5,h6),v),(l,n),(q,m),now),hs):=hx
 replace hA:LtOne wd ns:=hA
 have hΓ:=env_cons (hsO Tryz.func159) addPS_s (env_cons (hsO Tryz.func155) yes_s (env_cons (hsO Tryz.func41) decZS_s (env_cons (hsO Tryz.func13) headIdS_s (env_cons (hsO Tryz.func12) hexS_s (env_cons (hsO Tryz.func161) getStS_s (env_cons (hsO Tryz.func162) banS_s (env_cons (hsO Tryz.func46) copyBS_s env_nil)))))))
 have hTk:Has Tryz.prog 160:=hsO Tryz.func160
 have hFd:Has Tryz.prog 163:=hsO Tryz.func163
 have hlen:=bkRows_len L
 cases hs with
 |false=>
  have hv:=Lib.hid (num_off (d:=(L,((p,s),st,((h1,h2,h3,h4,h5,h6),v),(l,n),(q,m),now),false)) hA.arg rfl)
  clear hx hA
  refine zR ?_
  subst hFW;subst hFO
  refine At.retOA 997 (by rw [Tryz.results112]) hγ (hrows:=?_) (he:=?_)
  ·rw [hv.out]
  ·dsimp only [resNum]
   rw [hv.out]<;>rfl
 |true=>
 have hc:cliOk ((p,s),st,((h1,h2,h3,h4,h5,h6),v),(l,n),(q,m),now):=hx.2 rfl
 have hch:chOk L:=hx.1
 have hlt:lightOk ((p,s),st,((h1,h2,h3,h4,h5,h6),v),(l,n),(q,m),now):=hc.1
 have htb:tabOk (q,m):=hc.1.2.2.2.1
 have hnow:0≤now∧now≤1000000:=hc.1.2.2.2.2.2.1
 have hl12:l.length≤12:=hc.2.2
 clear hx
 rcases hA with⟨rfl,na,rfl⟩|⟨rfl,na,rfl⟩|⟨rfl,rfl⟩|⟨rfl,na,rfl⟩|⟨rfl,rfl⟩
 ·have t0:decide (peerW=(⟨#[112,101,101,114]⟩:ByteArray))=true:=by decide
  generalize hwd:peerW=wd at*
  have hv:=num_peer (L,((p,s),st,((h1,h2,h3,h4,h5,h6),v),(l,n),(q,m),now),true) na
  rw [hwd,if_pos rfl]at hv
  have c1:=mAddP_eq (q,m) na false htb
  have hP:peerX ((p,s),st,((h1,h2,h3,h4,h5,h6),v),(l,n),(q,m),now) na=((p,s),st,((h1,h2,h3,h4,h5,h6),v),(l,n),(addT (q,m) na false).1,now):=rfl
  have hT:peerT ((p,s),st,((h1,h2,h3,h4,h5,h6),v),(l,n),(q,m),now) na=if(addT (q,m) na false).2=true then okS else noS:=rfl
  dsimp only at hv
  rw [hP,hT]at hv
  clear hc hch hlt htb hP hT hwd
  generalize addT (q,m) na false=y at*
  obtain⟨⟨q',m'⟩,y2⟩:=y
  have c2:=mOkay_eq y2
  dsimp only at hv c1
  generalize (if y2=true then okS else noS)=XX at*
  replace hv:=Lib.hid hv
  have ha0:(rowsF cInt [na])[0]?=some [.sc (.int .i64 na)]:=rfl
  generalize hRM:rowsF cInt [na]=RM at*
  clear hRM
  refine zR ?_
  refine W.lateB hΓ 11 [[],[0],[0,1],[],[3],[3,4],[0,1,2,3,4,5],[0,1,2,3,4,5,6],[0,1,2,3,4,5,6,7],[0,1,2,3,4,5,6,7],[],[0,1,2,3,4,5,6,7,8,10],[0,1,2,3,4,5,6,7,8,9,10,11]] [9] (rest:=?rest6) (Es:=?Es6) (st1:=?st16) (stA:=?stA6) (t:=?t6) (x:=?x6) (y:=?y6) (ty:=?ty6) (pos:=?pos6) (after:=?af6) (n:=?n6) (b:=?b6) ?_
  refine zQ ?_
  refine W.drawB hΓ 3 [[],[],[1],[0,1,2],[0,1,2,3]] (Es:=?Es8) (rest:=?rest8) (st1:=?st18) ?_
  refine zQ ?_
  refine At.frzX 6 34 (h:=?_)
  subst hFW;subst hFO
  refine At.retOA 997 (by rw [Tryz.results112]) hγ (hrows:=?_) (he:=?_)
  ·rw [hv.out]
  ·dsimp only [resNum]
   rw [hv.out]<;>rfl
 ·have t0:decide (tickW=(⟨#[112,101,101,114]⟩:ByteArray))=false:=by decide
  have t1:decide (tickW=(⟨#[116,105,99,107]⟩:ByteArray))=true:=by decide
  generalize hwd:tickW=wd at*
  have hv:=num_tick (L,((p,s),st,((h1,h2,h3,h4,h5,h6),v),(l,n),(q,m),now),true) na
  rw [hwd,if_pos rfl]at hv
  have hT:tickT ((p,s),st,((h1,h2,h3,h4,h5,h6),v),(l,n),(q,m),now) na=if tickB ((p,s),st,((h1,h2,h3,h4,h5,h6),v),(l,n),(q,m),now) na=true then(if(tickL ((p,s),st,((h1,h2,h3,h4,h5,h6),v),(l,n),(q,m),now) na).2.1=2 then expW else folW)else noS:=rfl
  dsimp only at hv
  rw [hT]at hv
  clear hc hch htb hT hwd
  replace hv:=Lib.hid hv
  have ha0:(rowsF cInt [na])[0]?=some [.sc (.int .i64 na)]:=rfl
  generalize hRM:rowsF cInt [na]=RM at*
  clear hRM
  refine zR ?_
  refine W.subA [.blk 998 (.arr (.fr FO FW) 0 1 []),.blk 997 (.arr .ft 30 6 (rowsF cHeader l)),.slot 2 (one (.sl RM)),.slot 3 (one (.ptr 3 0)),.blk 3 (.box [.sl (bkRows L),.sc (.bool true),.sc (.int .i64 p),.sc (.int .i64 s),.sc (.int .i64 st),.sc (.int .i64 h1),.sc (.int .i64 h2),.sc (.string h3),.sc (.string h4),.sc (.string h5),.sc (.string h6),.sl (rowsF cVal v),.all 997,.sc (.int .i64 n),.sl (rowsF cPeer q),.sc (.int .i64 m),.sc (.int .i64 now)]),.slot 6 (one (.ptr 6 0)),.blk 6 (.box [.nil,.sc (.bool false),.sc (.int .i64 0),.sc (.int .i64 0),.sc (.int .i64 0),.sc (.int .i64 0),.sc (.int .i64 0),.sc (.string ByteArray.empty),.sc (.string ByteArray.empty),.sc (.string ByteArray.empty),.sc (.string ByteArray.empty),.nil,.nil,.sc (.int .i64 0),.nil,.sc (.int .i64 0),.sc (.int .i64 0)])] (h:=?_)
  refine AllGo.start hΓ (h:=?_)
  refine AllGo.add 0 0 (h:=?_)
  refine AllGo.add 1 1 (h:=?_)
  refine AllGo.add 0 2 (h:=?_)
  refine AllGo.add 1 2 (h:=?_)
  refine AllGo.add 3 2 (h:=?_)
  refine AllGo.add 4 3 (h:=?_)
  refine AllGo.add 5 3 (h:=?_)
  refine AllGo.add 7 3 (h:=?_)
  refine AllGo.add 12 4 (h:=?_)
  refine AllGo.add 13 4 (h:=?_)
  refine AllGo.add 15 4 (h:=?_)
  refine AllGo.addO 31 5 51 997 (.tup [(true,pLt (tickL ((p,s),st,((h1,h2,h3,h4,h5,h6),v),(l,n),(q,m),now) na) 997),(false,[.sc (.bool (tickB ((p,s),st,((h1,h2,h3,h4,h5,h6),v),(l,n),(q,m),now) na))])]) (.arr .ft 30 6 (hdRows (tickL ((p,s),st,((h1,h2,h3,h4,h5,h6),v),(l,n),(q,m),now) na))) (h:=?_)
  refine AllGo.add 63 6 (h:=?_)
  refine AllGo.add 127 7 (h:=?_)
  refine AllGo.add 127 8 (h:=?_)
  refine AllGo.add 255 8 (h:=?_)
  refine AllGo.add 0 9 (h:=?_)
  refine AllGo.add 1 9 (h:=?_)
  refine AllGo.add 3 9 (h:=?_)
  refine AllGo.add 4 9 (h:=?_)
  refine AllGo.add 5 9 (h:=?_)
  refine AllGo.add 7 9 (h:=?_)
  refine AllGo.add 12 9 (h:=?_)
  refine AllGo.add 13 9 (h:=?_)
  refine AllGo.add 15 9 (h:=?_)
  refine AllGo.add 28 9 (h:=?_)
  refine AllGo.add 29 9 (h:=?_)
  refine AllGo.add 31 9 (h:=?_)
  refine AllGo.add 63 9 (h:=?_)
  refine AllGo.add 127 9 (h:=?_)
  refine AllGo.add 255 9 (h:=?_)
  refine AllGo.add 383 9 (h:=?_)
  refine AllGo.add 511 9 (h:=?_)
  refine AllGo.add 767 10 (h:=?_)
  refine AllGo.add 1023 10 (h:=?_)
  refine AllGo.add 2047 11 (h:=?_)
  refine AllGo.doneG [(0,0),(0,2),(0,9),(1,1),(1,2),(1,9),(3,2),(3,9),(4,0),(4,3),(4,9),(5,1),(5,3),(5,9),(7,3),(7,9),(12,0),(12,4),(12,9),(13,1),(13,4),(13,9),(15,4),(15,9),(28,0),(28,9),(29,1),(29,9),(31,5),(31,9),(63,6),(63,9),(127,7),(127,8),(127,9),(255,8),(255,9),(383,7),(383,9),(511,9),(512,0),(512,2),(513,1),(513,2),(515,2),(516,0),(516,3),(517,1),(517,3),(519,3),(524,0),(524,4),(525,1),(525,4),(527,4),(540,0),(541,1),(543,5),(575,6),(639,7),(639,8),(767,8),(767,10),(895,7),(1023,10),(1791,8),(2047,11)] (hp:=?hp1) (hD:=?hD1) (h0:=?h01) (hS:=?hS1) (stE:=?stE1) (hE:=?hE1) (hT:=?hT1)
  case hp1=>kernel_rfl
  case hD1=>kernel_rfl
  case h01=>rfl
  case hS1=>
   repeat(first|refine List.forall_mem_cons.2 ⟨StepAt.toG hΓ (StepAt.mk' (ho:=by rfl) (hg:=by rfl) (hm:=by simp only [tabJ,eq_self,Nat.reduceEqDiff,Nat.reduceAdd,Nat.reducePow,reduceIte]<;>rfl) (hn:=by simp only [tabJ,eq_self,Nat.reduceEqDiff,Nat.reduceAdd,Nat.reducePow,reduceIte]<;>rfl) (hs:=by exact evsP) (hb:=by simp (disch:=omega) only [Sub,SubL,getS_hit,getS_miss,getS_blk,getS_kill,getS_nil,getB_nil,getB_slot,getB_hit,getB_miss,getB_kill0,getB_kill1,lsNms,vsNms,PL.nms,PV.nms,Blk.nms,bound,PV.kill,PL.kill,PL.names,List.append_nil,List.nil_append,List.cons_append,and_true,true_and,and_self, *]<;>(repeat' apply And.intro)<;>rfl)),?_⟩|refine List.forall_mem_cons.2 ⟨StepG.opO hTk tickS_s (((p,s),st,((h1,h2,h3,h4,h5,h6),v),(l,n),(q,m),now),na) hlt (ho:=by rfl) (hm:=by simp only [tabJ,eq_self,Nat.reduceEqDiff,Nat.reduceAdd,Nat.reducePow,reduceIte]<;>rfl) (hn:=by simp only [tabJ,eq_self,Nat.reduceEqDiff,Nat.reduceAdd,Nat.reducePow,reduceIte]<;>rfl) (hN:=by decide) (n:=997) (hn9:=by decide) (hb:=by exact evcP) (ha:=by simp only [argsR];exact evcP) (hro:=by rfl) (hst:=by rfl) (hsub:=by simp (disch:=omega) only [Sub,SubL,getS_hit,getS_miss,getS_blk,getS_kill,getS_nil,getB_nil,getB_slot,getB_hit,getB_miss,getB_kill0,getB_kill1,lsNms,vsNms,PL.nms,PV.nms,Blk.nms,bound,PV.kill,PL.kill,PL.names,List.append_nil,List.nil_append,List.cons_append,and_true,true_and,and_self, *]<;>(repeat' apply And.intro)<;>rfl),?_⟩)
   exact List.forall_mem_nil _
  case hE1=>simp only [tabJ,eq_self,Nat.reduceEqDiff,List.length_cons,List.length_nil,Nat.reduceAdd,Nat.reducePow,Nat.reduceSub,reduceIte]<;>rfl
  with_reducible apply WL.nil
  by_cases g1:tickB ((p,s),st,((h1,h2,h3,h4,h5,h6),v),(l,n),(q,m),now) na=true
  ·have t9:(!tickB ((p,s),st,((h1,h2,h3,h4,h5,h6),v),(l,n),(q,m),now) na)=false:=by rw [g1];rfl
   by_cases g2:(tickL ((p,s),st,((h1,h2,h3,h4,h5,h6),v),(l,n),(q,m),now) na).2.1=2
   ·have t10:decide ((tickL ((p,s),st,((h1,h2,h3,h4,h5,h6),v),(l,n),(q,m),now) na).2.1=2)=true:=dcT g2
    replace hv:=hv.out
    rw [if_pos g1,if_pos g2]at hv
    replace hv:=Lib.hid hv
    clear g1 g2
    refine zR ?_
    subst hFW;subst hFO
    refine At.retOA 997 (by rw [Tryz.results112]) hγ (hrows:=?_) (he:=?_)
    ·rw [hv.out]
    ·dsimp only [resNum]
     rw [hv.out]<;>rfl
   ·have t10:decide ((tickL ((p,s),st,((h1,h2,h3,h4,h5,h6),v),(l,n),(q,m),now) na).2.1=2)=false:=dcF g2
    replace hv:=hv.out
    rw [if_pos g1,if_neg g2]at hv
    replace hv:=Lib.hid hv
    clear g1 g2
    refine zR ?_
    subst hFW;subst hFO
    refine At.retOA 997 (by rw [Tryz.results112]) hγ (hrows:=?_) (he:=?_)
    ·rw [hv.out]
    ·dsimp only [resNum]
     rw [hv.out]<;>rfl
  ·have t9:(!tickB ((p,s),st,((h1,h2,h3,h4,h5,h6),v),(l,n),(q,m),now) na)=true:=by
    cases h:tickB ((p,s),st,((h1,h2,h3,h4,h5,h6),v),(l,n),(q,m),now) na with
    |true=>exact absurd h g1
    |false=>rfl
   replace hv:=hv.out
   rw [if_neg g1]at hv
   replace hv:=Lib.hid hv
   clear g1
   refine zR ?_
   subst hFW;subst hFO
   refine At.retOA 997 (by rw [Tryz.results112]) hγ (hrows:=?_) (he:=?_)
   ·rw [hv.out]
   ·dsimp only [resNum]
    rw [hv.out]<;>rfl
 ·have t0:decide (tipW=(⟨#[112,101,101,114]⟩:ByteArray))=false:=by decide
  have t1:decide (tipW=(⟨#[116,105,99,107]⟩:ByteArray))=false:=by decide
  have t2:decide (tipW=(⟨#[116,105,112]⟩:ByteArray))=true:=by decide
  generalize hwd:tipW=wd at*
  have hv:=num_tip (L,((p,s),st,((h1,h2,h3,h4,h5,h6),v),(l,n),(q,m),now),true)
  rw [hwd,if_pos rfl]at hv
  have hh:headOk (h1,h2,h3,h4,h5,h6):=hlt.2.1.1
  have hh1:1≤h1∧h1≤1000000:=hh.1
  have c1:=mDecZ_eq h1 ⟨by omega,by omega⟩
  have c2:=mHeadId_eq (h1,h2,h3,h4,h5,h6)
  have hz:=headId_size (h1,h2,h3,h4,h5,h6)
  have c3:=mHex_eq (headId (h1,h2,h3,h4,h5,h6)) (by omega)
  have hT:tipD ((p,s),st,((h1,h2,h3,h4,h5,h6),v),(l,n),(q,m),now)=bsS (decZ h1)++(⟨#[32]⟩:ByteArray)++hexS (headId (h1,h2,h3,h4,h5,h6)):=rfl
  dsimp only at hv
  rw [hT]at hv
  clear hc hch hlt htb hh hh1 hT hwd
  replace hv:=Lib.hid hv
  dsimp only [aHd]at c2
  have hD:(bsS (decZ h1)).size≤11:=decT_size h1
  have hX:(hexS (headId (h1,h2,h3,h4,h5,h6))).size≤16:=by rw [hexS_size];omega
  have hsp:=sp_size
  have hDs:(bsS (decZ h1)++(⟨#[32]⟩:ByteArray)).size≤12:=app_size hD sp_size (Nat.le_refl _)
  generalize headId (h1,h2,h3,h4,h5,h6)=I at*
  generalize bsS (decZ h1)=Dc at*
  generalize hexS I=XX at*
  refine zR ?_
  refine W.lateOB hΓ 15 [[],[],[1],[1,2],[1,2,3],[1,2,3,4],[1,2,3,4,5],[1,2,3,4,5,6],[],[8],[8,9],[8,9,10],[1,2,3,4,5,6,8,9,10,11],[1,2,3,4,5,6,8,9,10,11,12],[1,2,3,4,5,6,7,8,9,10,11,12,13],[0,1,2,3,4,5,6,8,9,10,11,12,13],[0,1,2,3,4,5,6,7,8,9,10,11,12,13,14,15]] [7,14] (rest:=?rest19) (Es:=?Es19) (st1:=?st119) (stA:=?stA19) (t:=?t19) (x:=?x19) (y:=?y19) (ty:=?ty19) (pos:=?pos19) (after:=?af19) (n:=?n19) (b:=?b19) ?_
  refine zQ ?_
  subst hFW;subst hFO
  refine At.retOA 997 (by rw [Tryz.results112]) hγ (hrows:=?_) (he:=?_)
  ·rw [hv.out]
  ·dsimp only [resNum]
   rw [hv.out]<;>rfl
 ·have t0:decide (seenW=(⟨#[112,101,101,114]⟩:ByteArray))=false:=by decide
  have t1:decide (seenW=(⟨#[116,105,99,107]⟩:ByteArray))=false:=by decide
  have t2:decide (seenW=(⟨#[116,105,112]⟩:ByteArray))=false:=by decide
  have t3:decide (seenW=(⟨#[115,101,101,110]⟩:ByteArray))=true:=by decide
  generalize hwd:seenW=wd at*
  have hv:=num_seen (L,((p,s),st,((h1,h2,h3,h4,h5,h6),v),(l,n),(q,m),now),true) na
  rw [hwd,if_pos rfl]at hv
  have c1:=mGetSt_eq (l,n) na (show l.length≤_ by omega)
  have hT:seenT ((p,s),st,((h1,h2,h3,h4,h5,h6),v),(l,n),(q,m),now) na=if(getHd (l,n) na).2=true then hexS (headId (getHd (l,n) na).1)else noneW:=rfl
  dsimp only at hv c1
  rw [hT]at hv
  clear hc hch hlt htb hT hwd
  generalize getHd (l,n) na=y at*
  obtain⟨⟨y1,y2,y3,y4,y5,y6⟩,z⟩:=y
  dsimp only at hv c1
  have ha0:(rowsF cInt [na])[0]?=some [.sc (.int .i64 na)]:=rfl
  generalize hRM:rowsF cInt [na]=RM at*
  clear hRM
  cases z with
  |false=>
   rw [if_neg Bool.false_ne_true]at hv
   replace hv:=Lib.hid hv
   refine zR ?_
   refine W.lateB hΓ 11 [[],[0],[0,1],[],[3],[3,4],[0,1,2,3,4,5],[0,1,2,3,4,5,6],[0,1,2,3,4,5,6,7],[0,1,2,3,4,5,6,7],[],[0,1,2,3,4,5,6,7,8,10],[0,1,2,3,4,5,6,7,8,9,10,11]] [9] (rest:=?rest23) (Es:=?Es23) (st1:=?st123) (stA:=?stA23) (t:=?t23) (x:=?x23) (y:=?y23) (ty:=?ty23) (pos:=?pos23) (after:=?af23) (n:=?n23) (b:=?b23) ?_
   refine zQ ?_
   subst hFW;subst hFO
   refine At.retOA 997 (by rw [Tryz.results112]) hγ (hrows:=?_) (he:=?_)
   ·rw [hv.out]
   ·dsimp only [resNum]
    rw [hv.out]<;>rfl
  |true=>
   rw [if_pos rfl]at hv
   have c2:=mHeadId_eq (y1,y2,y3,y4,y5,y6)
   have hz:=headId_size (y1,y2,y3,y4,y5,y6)
   have c3:=mHex_eq (headId (y1,y2,y3,y4,y5,y6)) (by omega)
   dsimp only [aHd]at c2
   generalize headId (y1,y2,y3,y4,y5,y6)=I at*
   generalize hexS I=XX at*
   replace hv:=Lib.hid hv
   refine zR ?_
   refine W.lateB hΓ 11 [[],[0],[0,1],[],[3],[3,4],[0,1,2,3,4,5],[0,1,2,3,4,5,6],[0,1,2,3,4,5,6,7],[0,1,2,3,4,5,6,7],[],[0,1,2,3,4,5,6,7,8,10],[0,1,2,3,4,5,6,7,8,9,10,11]] [9] (rest:=?rest27) (Es:=?Es27) (st1:=?st127) (stA:=?stA27) (t:=?t27) (x:=?x27) (y:=?y27) (ty:=?ty27) (pos:=?pos27) (after:=?af27) (n:=?n27) (b:=?b27) ?_
   refine zQ ?_
   refine W.drawB hΓ 4 [[],[],[1],[1,2],[0,1,2,3],[0,1,2,3,4]] (Es:=?Es29) (rest:=?rest29) (st1:=?st129) ?_
   refine zQ ?_
   subst hFW;subst hFO
   refine At.retOA 997 (by rw [Tryz.results112]) hγ (hrows:=?_) (he:=?_)
   ·rw [hv.out]
   ·dsimp only [resNum]
    rw [hv.out]<;>rfl
 ·have t0:decide (bannedW=(⟨#[112,101,101,114]⟩:ByteArray))=false:=by decide
  have t1:decide (bannedW=(⟨#[116,105,99,107]⟩:ByteArray))=false:=by decide
  have t2:decide (bannedW=(⟨#[116,105,112]⟩:ByteArray))=false:=by decide
  have t3:decide (bannedW=(⟨#[115,101,101,110]⟩:ByteArray))=false:=by decide
  have t4:decide (bannedW=(⟨#[98,97,110,110,101,100]⟩:ByteArray))=true:=by decide
  generalize hwd:bannedW=wd at*
  have hv:=num_banned (L,((p,s),st,((h1,h2,h3,h4,h5,h6),v),(l,n),(q,m),now),true)
  rw [hwd,if_pos rfl]at hv
  have c1:=mBan_eq (q,m) now htb hnow
  have hbl:(banL q now).length≤99:=banK_len q now 99
  have hin:∀k,(h:k<(banL q now).length)→1≤(banL q now)[k]∧(banL q now)[k]≤99:=fun k h=>(banL_mem.1 (List.getElem_mem h)).1
  have hT:banD ((p,s),st,((h1,h2,h3,h4,h5,h6),v),(l,n),(q,m),now)=joinS (banL q now) (banL q now).length:=rfl
  dsimp only at hv
  rw [hT]at hv
  clear hc hch hlt htb hT hwd
  replace hv:=Lib.hid hv
  generalize banL q now=B at*
  refine zR ?_
  refine W.loopA (fun k=>k≤B.length) (fun k:Nat=>[.blk 998 (.arr (.fr FO FW) 0 1 []),.blk 997 (.arr .ft 30 6 (rowsF cHeader l)),.slot 3 (one (.ptr 3 0)),.blk 3 (.box [.sl (bkRows L),.sc (.bool true),.sc (.int .i64 p),.sc (.int .i64 s),.sc (.int .i64 st),.sc (.int .i64 h1),.sc (.int .i64 h2),.sc (.string h3),.sc (.string h4),.sc (.string h5),.sc (.string h6),.sl (rowsF cVal v),.all 997,.sc (.int .i64 n),.sl (rowsF cPeer q),.sc (.int .i64 m),.sc (.int .i64 now)]),.slot 6 (one (.ptr 6 0)),.blk 6 (.box [.nil,.sc (.bool false),.sc (.int .i64 0),.sc (.int .i64 0),.sc (.int .i64 0),.sc (.int .i64 0),.sc (.int .i64 0),.sc (.string ByteArray.empty),.sc (.string ByteArray.empty),.sc (.string ByteArray.empty),.sc (.string ByteArray.empty),.nil,.nil,.sc (.int .i64 0),.nil,.sc (.int .i64 0),.sc (.int .i64 0)]),.slot 15 (one (.all 108)),.blk 108 (.arr .ft 3 1 (rowsF cInt B)),.slot 16 (vI k),.slot 14 (one (.sc (.string (joinS B k))))]) (fun k=>B.length-k) 0 (Nat.zero_le _) (h:=?_)
  have hlenB:=rowsF_len cInt B
  rintro k hk
  by_cases hlt:k<B.length
  ·have hrow:=rowsF_get cInt B k hlt
   have hi:=hin k hlt
   have c2:=mDecZ_eq B[k] ⟨by omega,by omega⟩
   have hg:B.getD k 0=B[k]:=by rw [List.getD_eq_getElem?_getD,gsE hlt];rfl
   rcases Nat.eq_zero_or_pos k with rfl|hp
   ·have hJ:joinS B (0+1)=ByteArray.empty++bsS (decZ B[0]):=by
     show ByteArray.empty++decT (B.getD 0 0)=_
     rw [hg]
     rfl
    have hJ0:joinS B 0=ByteArray.empty:=rfl
    have hDz:(bsS (decZ B[0])).size≤11:=decT_size B[0]
    have hes:=emp_size
    rw [hJ0]
    clear hin c1 hg
    replace hJ:=Lib.hid hJ
    generalize bsS (decZ B[0])=Dc at*
    generalize B[0]=xb at*
    dsimp only [cInt,List.map_cons,List.map_nil]at hrow
    refine zR ?_
    refine At.roundA (0+1) (by omega) (by omega) (hs:=?_)
    rw [hJ.out]
    exact subP
   ·have hJ:joinS B (k+1)=(joinS B k++(⟨#[32]⟩:ByteArray))++bsS (decZ B[k]):=by
     show(if 0<k then joinS B k++spW else joinS B k)++decT (B.getD k 0)=_
     rw [if_pos hp,hg]
     rfl
    have hDz:(bsS (decZ B[k])).size≤11:=decT_size B[k]
    have hJs:(joinS B k).size≤1188:=Nat.le_trans (joinS_size B k) (by omega)
    have hsp:=sp_size
    have hJt:(joinS B k++(⟨#[32]⟩:ByteArray)).size≤1189:=app_size hJs sp_size (Nat.le_refl _)
    clear hin c1 hg
    generalize joinS B k=J0 at*
    replace hJ:=Lib.hid hJ
    generalize bsS (decZ B[k])=Dc at*
    generalize B[k]=xb at*
    dsimp only [cInt,List.map_cons,List.map_nil]at hrow
    refine zR ?_
    refine At.roundA (k+1) (by omega) (by omega) (hs:=?_)
    rw [hJ.out]
    exact subP
  ·have ht:k=B.length:=by omega
   subst ht
   clear hin c1
   refine zR ?_
   subst hFW;subst hFO
   refine At.retOA 997 (by rw [Tryz.results112]) hγ (hrows:=?_) (he:=?_)
   ·rw [hv.out]
   ·dsimp only [resNum]
    rw [hv.out]<;>rfl
end
end Go.Proofs.YtfgkfcfplodaoaaGreatDoor
