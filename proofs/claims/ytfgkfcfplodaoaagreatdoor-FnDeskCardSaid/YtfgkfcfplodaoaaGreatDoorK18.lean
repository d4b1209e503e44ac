/-
  Put together out of 1 texts.
-/
import Derived.Test.YtfgkfcfplodaoaaGreatDoorK15
import Derived.Test.YtfgkfcfplodaoaaGreatDoorG10
set_option linter.unusedSimpArgs false
set_option linter.unusedVariables false
set_option maxRecDepth 100000
set_option maxHeartbeats 64000000
namespace Go.Proofs.YtfgkfcfplodaoaaGreatDoor
open Go Go.RowKit
section
theorem lightF_s:SoundO Tryz.prog 112 (fun x:TNum=>deskOk x.1∧LtFd x.2.1 x.2.2) 30 6 (fun x=>dkRows x.1) encNum (fun x=>dkRows (numD x.1 x.2.1 x.2.2).1) resNum:=by
 refine SoundO.of Tryz.func112 rfl Tryz.ntmps112 ?_
 rintro⟨⟨L,⟨⟨p,s⟩,st,⟨⟨h1,h2,h3,h4,h5,h6⟩,v⟩,⟨l,n⟩,⟨q,m⟩,now⟩,hs⟩,wd,ns⟩ γ0 w ⟨hx,hA⟩ hγ
 refine⟨by simp,?_⟩
 simp only [frE,initO]
 generalize hFW:(fun k:Nat=>w.heap[k]?)=FW
 generalize hFO:(fun b:Nat=>γ0 b=some 998)=FO
 replace hx:deskOk (L,((p,s),st,((h1,h2,h3,h4,h5,h6),v),(l,n),(q,m),now),hs):=hx
 replace hA:LtFd wd ns:=hA
 have hΓ:=env_cons (hsO Tryz.func159) addPS_s (env_cons (hsO Tryz.func155) yes_s (env_cons (hsO Tryz.func41) decZS_s (env_cons (hsO Tryz.func13) headIdS_s (env_cons (hsO Tryz.func12) hexS_s (env_cons (hsO Tryz.func161) getStS_s (env_cons (hsO Tryz.func162) banS_s (env_cons (hsO Tryz.func46) copyBS_s env_nil)))))))
 have hTk:Has Tryz.prog 160:=hsO Tryz.func160
 have hFd:Has Tryz.prog 163:=hsO Tryz.func163
 have hlen:=bkRows_len L
 cases hs with
 |false=>
  have hv:=Lib.hid (num_off (d:=(L,((p,s),st,((h1,h2,h3,h4,h5,h6),v),(l,n),(q,m),now),false)) hA.arg rfl)
  clear hx hA
  refine zR ?_
  subst hFW;subst hFO
  refine At.retOA 997 (by rw [Tryz.results112]) hγ (hrows:=?_) (he:=?_)
  ·rw [hv.out]
  ·dsimp only [resNum]
   rw [hv.out]<;>rfl
 |true=>
 have hc:cliOk ((p,s),st,((h1,h2,h3,h4,h5,h6),v),(l,n),(q,m),now):=hx.2 rfl
 have hch:chOk L:=hx.1
 have hlt:lightOk ((p,s),st,((h1,h2,h3,h4,h5,h6),v),(l,n),(q,m),now):=hc.1
 have htb:tabOk (q,m):=hc.1.2.2.2.1
 have hnow:0≤now∧now≤1000000:=hc.1.2.2.2.2.2.1
 have hl12:l.length≤12:=hc.2.2
 clear hx
 rcases hA with⟨rfl,na,nb,rfl⟩
 ·have t0:decide (feedW=(⟨#[112,101,101,114]⟩:ByteArray))=false:=by decide
  have t1:decide (feedW=(⟨#[116,105,99,107]⟩:ByteArray))=false:=by decide
  have t2:decide (feedW=(⟨#[116,105,112]⟩:ByteArray))=false:=by decide
  have t3:decide (feedW=(⟨#[115,101,101,110]⟩:ByteArray))=false:=by decide
  have t4:decide (feedW=(⟨#[98,97,110,110,101,100]⟩:ByteArray))=false:=by decide
  have t5:decide (feedW=(⟨#[108,105,101]⟩:ByteArray))=false:=by decide
  generalize hwd:feedW=wd at*
  have hv:=num_feed (L,((p,s),st,((h1,h2,h3,h4,h5,h6),v),(l,n),(q,m),now),true) na nb
  rw [hwd]at hv
  have hS:feedD (L,((p,s),st,((h1,h2,h3,h4,h5,h6),v),(l,n),(q,m),now),true) na nb false=if true=true∧0≤bkAt L nb then((L,feedX ((p,s),st,((h1,h2,h3,h4,h5,h6),v),(l,n),(q,m),now) na (if false=true then lieB (L.getD (bkAt L nb).toNat zBk)else L.getD (bkAt L nb).toNat zBk),true),decT (feedC ((p,s),st,((h1,h2,h3,h4,h5,h6),v),(l,n),(q,m),now) na (if false=true then lieB (L.getD (bkAt L nb).toNat zBk)else L.getD (bkAt L nb).toNat zBk)))else((L,((p,s),st,((h1,h2,h3,h4,h5,h6),v),(l,n),(q,m),now),true),noneW):=rfl
  rw [hS]at hv
  clear hS
  have ha0:(rowsF cInt [na,nb])[0]?=some [.sc (.int .i64 na)]:=rfl
  have ha1:(rowsF cInt [na,nb])[1]?=some [.sc (.int .i64 nb)]:=rfl
  generalize hRM:rowsF cInt [na,nb]=RM at*
  clear hRM
  have hL12:L.length≤12:=hch.1
  have hw:=bkAt_ch hch nb
  rcases hw with⟨k,hk,e1,e⟩|⟨e1,e⟩
  ·rw [e,if_pos ⟨rfl,by omega⟩,Int.toNat_natCast,bkD_get hk]at hv
   have hok:=(hch.2 k hk).1
   have hrow:=bkRow_at L k hk
   have ek:nb-1=(k:Int):=by omega
   have c2:=mCopyB_eq L[k] hok
   have hkl:k<L.length:=hk
   have hf:okFeed (((p,s),st,((h1,h2,h3,h4,h5,h6),v),(l,n),(q,m),now),na,L[k]):=⟨hlt,hok,by show l.length<20;omega⟩
   have hin:=feedC_in ((p,s),st,((h1,h2,h3,h4,h5,h6),v),(l,n),(q,m),now) na L[k]
   have c4:=mDecZ_eq (feedC ((p,s),st,((h1,h2,h3,h4,h5,h6),v),(l,n),(q,m),now) na L[k]) ⟨by omega,by omega⟩
   have hb0:decide (nb<1)=false:=dcF (by omega)
   have hb1:decide ((L.length:Int)<nb)=false:=dcF (by omega)
   have hnb1:1≤nb:=by omega
   have hnb2:nb≤12:=by omega
   clear hc hch hlt htb e hok e1
   rw [if_neg Bool.false_ne_true]at hv
   generalize L[k]=B at*
   obtain⟨⟨x1,x2,x3,x4,x5,x6⟩,b1,b2,⟨ch,cr,ci,cs⟩⟩:=B
   dsimp only [aBk,rBk,rowsBk,rowsCm,bkRow]at hrow c2
   replace hv:=Lib.hid hv
   replace hf:=Lib.hid hf
   clear hwd
   refine zR ?_
   refine W.drawB hΓ 13 [[],[0],[0,1],[0,1,2],[0,1,2,3],[0,1,2,3,4],[0,1,2,3,4,5],[0,1,2,3,4,5,6],[0,1,2,3,4],[0,1,2,3,4,8],[0,1,2,3,4,8,9],[0,1,2,3,4,5,6,7,8,9,10],[0,1,2,3,4,5,6,7,8,9,10,11]] (Es:=?Es6) (rest:=?rest6) (st1:=?st16) ?_
   refine zQ ?_
   refine W.drawB hΓ 10 [[],[0],[],[2],[2,3],[2,3,4],[0,1,2,3,4,5],[0,1,2,3,4,5,6],[0,1,2,3,4,5,6,7],[],[0,1,2,3,4,5,6,7,8,9]] (Es:=?Es8) (rest:=?rest8) (st1:=?st18) ?_
   refine zQ ?_
   refine W.frzB 17 (h:=?_)
   refine W.subA [.blk 998 (.arr (.fr FO FW) 0 1 []),.blk 997 (.arr .ft 30 6 (rowsF cHeader l)),.slot 2 (one (.sl RM)),.slot 3 (one (.ptr 3 0)),.blk 3 (.box [.sl (bkRows L),.sc (.bool true),.sc (.int .i64 p),.sc (.int .i64 s),.sc (.int .i64 st),.sc (.int .i64 h1),.sc (.int .i64 h2),.sc (.string h3),.sc (.string h4),.sc (.string h5),.sc (.string h6),.sl (rowsF cVal v),.all 997,.sc (.int .i64 n),.sl (rowsF cPeer q),.sc (.int .i64 m),.sc (.int .i64 now)]),.slot 6 (one (.ptr 6 0)),.blk 6 (.box [.nil,.sc (.bool false),.sc (.int .i64 0),.sc (.int .i64 0),.sc (.int .i64 0),.sc (.int .i64 0),.sc (.int .i64 0),.sc (.string ByteArray.empty),.sc (.string ByteArray.empty),.sc (.string ByteArray.empty),.sc (.string ByteArray.empty),.nil,.nil,.sc (.int .i64 0),.nil,.sc (.int .i64 0),.sc (.int .i64 0)]),.slot 17 (one (.ptr 17 0)),.blk 17 (.box [.sc (.int .i64 x1),.sc (.int .i64 x2),.sc (.string x3),.sc (.string x4),.sc (.string x5),.sc (.string x6),.sl (rowsF cVal b1),.sl (rowsF cVal b2),.sc (.int .i64 ch),.sc (.int .i64 cr),.sc (.string ci),.sl (rowsF cCSig cs)])] (h:=?_)
   refine AllGo.start hΓ (h:=?_)
   refine AllGo.add 0 0 (h:=?_)
   refine AllGo.add 1 1 (h:=?_)
   refine AllGo.add 0 2 (h:=?_)
   refine AllGo.add 1 2 (h:=?_)
   refine AllGo.add 3 2 (h:=?_)
   refine AllGo.add 4 3 (h:=?_)
   refine AllGo.add 5 3 (h:=?_)
   refine AllGo.add 7 3 (h:=?_)
   refine AllGo.add 12 4 (h:=?_)
   refine AllGo.add 13 4 (h:=?_)
   refine AllGo.add 15 4 (h:=?_)
   refine AllGo.add 0 5 (h:=?_)
   refine AllGo.add 1 5 (h:=?_)
   refine AllGo.add 3 5 (h:=?_)
   refine AllGo.add 4 5 (h:=?_)
   refine AllGo.add 5 5 (h:=?_)
   refine AllGo.add 7 5 (h:=?_)
   refine AllGo.add 12 5 (h:=?_)
   refine AllGo.add 13 5 (h:=?_)
   refine AllGo.add 15 5 (h:=?_)
   refine AllGo.add 28 5 (h:=?_)
   refine AllGo.add 29 5 (h:=?_)
   refine AllGo.add 31 5 (h:=?_)
   refine AllGo.addO 63 6 162 997 (.tup [(true,pLt (feedX ((p,s),st,((h1,h2,h3,h4,h5,h6),v),(l,n),(q,m),now) na ((x1,x2,x3,x4,x5,x6),b1,b2,(ch,cr,ci,cs))) 997),(false,[.sc (.int .i64 (feedC ((p,s),st,((h1,h2,h3,h4,h5,h6),v),(l,n),(q,m),now) na ((x1,x2,x3,x4,x5,x6),b1,b2,(ch,cr,ci,cs))))])]) (.arr .ft 30 6 (hdRows (feedX ((p,s),st,((h1,h2,h3,h4,h5,h6),v),(l,n),(q,m),now) na ((x1,x2,x3,x4,x5,x6),b1,b2,(ch,cr,ci,cs))))) (h:=?_)
   refine AllGo.add 127 7 (h:=?_)
   refine AllGo.add 255 8 (h:=?_)
   refine AllGo.add 255 9 (h:=?_)
   refine AllGo.add 511 9 (h:=?_)
   refine AllGo.add 0 10 (h:=?_)
   refine AllGo.add 1 10 (h:=?_)
   refine AllGo.add 3 10 (h:=?_)
   refine AllGo.add 4 10 (h:=?_)
   refine AllGo.add 5 10 (h:=?_)
   refine AllGo.add 7 10 (h:=?_)
   refine AllGo.add 12 10 (h:=?_)
   refine AllGo.add 13 10 (h:=?_)
   refine AllGo.add 15 10 (h:=?_)
   refine AllGo.add 28 10 (h:=?_)
   refine AllGo.add 29 10 (h:=?_)
   refine AllGo.add 31 10 (h:=?_)
   refine AllGo.add 32 10 (h:=?_)
   refine AllGo.add 33 10 (h:=?_)
   refine AllGo.add 35 10 (h:=?_)
   refine AllGo.add 36 10 (h:=?_)
   refine AllGo.add 37 10 (h:=?_)
   refine AllGo.add 39 10 (h:=?_)
   refine AllGo.add 44 10 (h:=?_)
   refine AllGo.add 45 10 (h:=?_)
   refine AllGo.add 47 10 (h:=?_)
   refine AllGo.add 60 10 (h:=?_)
   refine AllGo.add 61 10 (h:=?_)
   refine AllGo.add 63 10 (h:=?_)
   refine AllGo.add 127 10 (h:=?_)
   refine AllGo.add 255 10 (h:=?_)
   refine AllGo.add 511 10 (h:=?_)
   refine AllGo.add 767 10 (h:=?_)
   refine AllGo.add 1023 10 (h:=?_)
   refine AllGo.add 1535 11 (h:=?_)
   refine AllGo.add 2047 11 (h:=?_)
   refine AllGo.add 4095 12 (h:=?_)
   refine AllGo.doneG [(0,0),(0,2),(0,5),(0,10),(1,1),(1,2),(1,5),(1,10),(3,2),(3,5),(3,10),(4,0),(4,3),(4,5),(4,10),(5,1),(5,3),(5,5),(5,10),(7,3),(7,5),(7,10),(12,0),(12,4),(12,5),(12,10),(13,1),(13,4),(13,5),(13,10),(15,4),(15,5),(15,10),(28,0),(28,5),(28,10),(29,1),(29,5),(29,10),(31,5),(31,10),(32,0),(32,2),(32,10),(33,1),(33,2),(33,10),(35,2),(35,10),(36,0),(36,3),(36,10),(37,1),(37,3),(37,10),(39,3),(39,10),(44,0),(44,4),(44,10),(45,1),(45,4),(45,10),(47,4),(47,10),(60,0),(60,10),(61,1),(61,10),(63,6),(63,10),(127,7),(127,10),(255,8),(255,9),(255,10),(511,9),(511,10),(767,8),(767,10),(1023,10),(1024,0),(1024,2),(1024,5),(1025,1),(1025,2),(1025,5),(1027,2),(1027,5),(1028,0),(1028,3),(1028,5),(1029,1),(1029,3),(1029,5),(1031,3),(1031,5),(1036,0),(1036,4),(1036,5),(1037,1),(1037,4),(1037,5),(1039,4),(1039,5),(1052,0),(1052,5),(1053,1),(1053,5),(1055,5),(1056,0),(1056,2),(1057,1),(1057,2),(1059,2),(1060,0),(1060,3),(1061,1),(1061,3),(1063,3),(1068,0),(1068,4),(1069,1),(1069,4),(1071,4),(1084,0),(1085,1),(1087,6),(1151,7),(1279,8),(1279,9),(1535,9),(1535,11),(1791,8),(2047,11),(3583,9),(4095,12)] (hp:=?hp1) (hD:=?hD1) (h0:=?h01) (hS:=?hS1) (stE:=?stE1) (hE:=?hE1) (hT:=?hT1)
   case hp1=>kernel_rfl
   case hD1=>kernel_rfl
   case h01=>rfl
   case hS1=>
    repeat(first|refine List.forall_mem_cons.2 ⟨StepAt.toG hΓ (StepAt.mk' (ho:=by rfl) (hg:=by rfl) (hm:=by simp only [tabJ,eq_self,Nat.reduceEqDiff,Nat.reduceAdd,Nat.reducePow,reduceIte]<;>rfl) (hn:=by simp only [tabJ,eq_self,Nat.reduceEqDiff,Nat.reduceAdd,Nat.reducePow,reduceIte]<;>rfl) (hs:=by exact evsP) (hb:=by simp (disch:=omega) only [Sub,SubL,getS_hit,getS_miss,getS_blk,getS_kill,getS_nil,getB_nil,getB_slot,getB_hit,getB_miss,getB_kill0,getB_kill1,lsNms,vsNms,PL.nms,PV.nms,Blk.nms,bound,PV.kill,PL.kill,PL.names,List.append_nil,List.nil_append,List.cons_append,and_true,true_and,and_self, *]<;>(repeat' apply And.intro)<;>rfl)),?_⟩|refine List.forall_mem_cons.2 ⟨StepG.opO hFd feedS_s (((p,s),st,((h1,h2,h3,h4,h5,h6),v),(l,n),(q,m),now),na,((x1,x2,x3,x4,x5,x6),b1,b2,(ch,cr,ci,cs))) hf.out (ho:=by rfl) (hm:=by simp only [tabJ,eq_self,Nat.reduceEqDiff,Nat.reduceAdd,Nat.reducePow,reduceIte]<;>rfl) (hn:=by simp only [tabJ,eq_self,Nat.reduceEqDiff,Nat.reduceAdd,Nat.reducePow,reduceIte]<;>rfl) (hN:=by decide) (n:=997) (hn9:=by decide) (hb:=by exact evcP) (ha:=by simp only [argsR];exact evcP) (hro:=by rfl) (hst:=by rfl) (hsub:=by simp (disch:=omega) only [Sub,SubL,getS_hit,getS_miss,getS_blk,getS_kill,getS_nil,getB_nil,getB_slot,getB_hit,getB_miss,getB_kill0,getB_kill1,lsNms,vsNms,PL.nms,PV.nms,Blk.nms,bound,PV.kill,PL.kill,PL.names,List.append_nil,List.nil_append,List.cons_append,and_true,true_and,and_self, *]<;>(repeat' apply And.intro)<;>rfl),?_⟩)
    exact List.forall_mem_nil _
   case hE1=>simp only [tabJ,eq_self,Nat.reduceEqDiff,List.length_cons,List.length_nil,Nat.reduceAdd,Nat.reducePow,Nat.reduceSub,reduceIte]<;>rfl
   with_reducible apply WL.nil
   refine zR ?_
   refine W.drawB hΓ 3 [[],[],[1],[0,1,2],[0,1,2,3]] (Es:=?Es11) (rest:=?rest11) (st1:=?st111) ?_
   refine zQ ?_
   subst hFW;subst hFO
   refine At.retOA 997 (by rw [Tryz.results112]) hγ (hrows:=?_) (he:=?_)
   ·rw [hv.out]
   ·dsimp only [resNum]
    rw [hv.out]<;>rfl
  ·rw [e,if_neg (fun h=>by have:=h.2;omega)]at hv
   clear hc hch hlt htb e
   replace hv:=Lib.hid hv
   clear hwd
   rcases e1 with e1|e1
   ·have hb0:decide (nb<1)=true:=dcT e1
    refine zR ?_
    refine W.drawB hΓ 13 [[],[0],[0,1],[0,1,2],[0,1,2,3],[0,1,2,3,4],[0,1,2,3,4,5],[0,1,2,3,4,5,6],[0,1,2,3,4],[0,1,2,3,4,8],[0,1,2,3,4,8,9],[0,1,2,3,4,5,6,7,8,9,10],[0,1,2,3,4,5,6,7,8,9,10,11]] (Es:=?Es15) (rest:=?rest15) (st1:=?st115) ?_
    refine zQ ?_
    subst hFW;subst hFO
    refine At.retOA 997 (by rw [Tryz.results112]) hγ (hrows:=?_) (he:=?_)
    ·rw [hv.out]
    ·dsimp only [resNum]
     rw [hv.out]<;>rfl
   ·have hb0:decide (nb<1)=false:=dcF (by omega)
    have hb1:decide ((L.length:Int)<nb)=true:=dcT e1
    refine zR ?_
    refine W.drawB hΓ 13 [[],[0],[0,1],[0,1,2],[0,1,2,3],[0,1,2,3,4],[0,1,2,3,4,5],[0,1,2,3,4,5,6],[0,1,2,3,4],[0,1,2,3,4,8],[0,1,2,3,4,8,9],[0,1,2,3,4,5,6,7,8,9,10],[0,1,2,3,4,5,6,7,8,9,10,11]] (Es:=?Es19) (rest:=?rest19) (st1:=?st119) ?_
    refine zQ ?_
    subst hFW;subst hFO
    refine At.retOA 997 (by rw [Tryz.results112]) hγ (hrows:=?_) (he:=?_)
    ·rw [hv.out]
    ·dsimp only [resNum]
     rw [hv.out]<;>rfl
end
end Go.Proofs.YtfgkfcfplodaoaaGreatDoor
