/-
  Put together out of 3 texts.
-/
import Derived.Test.YtfgkfcfplodaoaaGreatDoorG18
import Derived.Test.YtfgkfcfplodaoaaGreatDoorG13
set_option linter.unusedSimpArgs false
set_option linter.unusedVariables false
set_option maxRecDepth 100000
set_option maxHeartbeats 8000000
namespace Go.Proofs.YtfgkfcfplodaoaaGreatDoor
open Go Go.RowKit
section
theorem tabOk_len {t:TTab}(h:tabOk t):t.1.length≤6:=h.1.1
theorem tabOk_at {t:TTab}(h:tabOk t){k:Nat}(hk:k<t.1.length):peerOk t.1[k]:=by
 have:=(h.2 k hk).1
 rwa [peerD_get hk]at this
theorem cPeer_set (l:List TPeer)(k:Nat)(a:Int)(b:Bool)(c d:Int):(rowsF cPeer l).set k [.sc (.int .i64 a),.sc (.bool b),.sc (.int .i64 c),.sc (.int .i64 d)]=rowsF cPeer (l.set k (a,b,c,d)):=rowsF_set cPeer l k (a,b,c,d)
def goodT (t:TTab)(id:Int):TTab:=if h:(atP t.1 id).toNat<t.1.length∧0≤atP t.1 id then(t.1.set (atP t.1 id).toNat ((t.1[(atP t.1 id).toNat]'h.1).1,(t.1[(atP t.1 id).toNat]'h.1).2.1,(t.1[(atP t.1 id).toNat]'h.1).2.2.1,0),t.2)else t
def pwN (i:Nat):Int:=((10*2^i:Nat):Int)
def lieN (b:Int):Int:=if b<5 then pwN b.toNat else 320
def lieT (t:TTab)(id now:Int):TTab:=if h:(atP t.1 id).toNat<t.1.length∧0≤atP t.1 id then(t.1.set (atP t.1 id).toNat ((t.1[(atP t.1 id).toNat]'h.1).1,(t.1[(atP t.1 id).toNat]'h.1).2.1,now+lieN (t.1[(atP t.1 id).toNat]'h.1).2.2.2,min 20 ((t.1[(atP t.1 id).toNat]'h.1).2.2.2+1)),t.2)else t
theorem goodT_at {l:List TPeer}{n id:Int}{k:Nat}(hk:k<l.length)(h:atP l id=(k:Int)){a:Int}{b:Bool}{c d:Int}(hp:l[k]=(a,b,c,d)):goodT (l,n) id=(l.set k (a,b,c,0),n):=by
 unfold goodT
 have e:(atP l id).toNat=k:=by rw [h];rfl
 rw [dif_pos ⟨by show(atP l id).toNat<l.length;omega,by show 0≤atP l id;omega⟩]
 simp only [e,hp]
theorem goodT_no {l:List TPeer}{n id:Int}(h:atP l id= -1):goodT (l,n) id=(l,n):=by
 unfold goodT
 rw [dif_neg (fun q=>by have:0≤atP l id:=q.2;omega)]
theorem lieT_at {l:List TPeer}{n id now:Int}{k:Nat}(hk:k<l.length)(h:atP l id=(k:Int)){a:Int}{b:Bool}{c d:Int}(hp:l[k]=(a,b,c,d)):lieT (l,n) id now=(l.set k (a,b,now+lieN d,min 20 (d+1)),n):=by
 unfold lieT
 have e:(atP l id).toNat=k:=by rw [h];rfl
 rw [dif_pos ⟨by show(atP l id).toNat<l.length;omega,by show 0≤atP l id;omega⟩]
 simp only [e,hp]
theorem lieT_no {l:List TPeer}{n id now:Int}(h:atP l id= -1):lieT (l,n) id now=(l,n):=by
 unfold lieT
 rw [dif_neg (fun q=>by have:0≤atP l id:=q.2;omega)]
abbrev rTabB (t:TTab)(b:Bool):Res:=.tup [(true,rTab t),rSc (.bool b)]
noncomputable def mGood:=mdl (fun x:TTab×Int=>tabOk x.1) (fun x=>[aTab x.1,aI x.2]) (fun x=>rTabB (goodT x.1 x.2) (decide (0≤atP x.1.1 x.2)))
theorem mGood_eq (t:TTab)(id:Int)(h:tabOk t):mGood [aTab t,aI id]=some (rTabB (goodT t id) (decide (0≤atP t.1 id))):=mdl_eq (by
 rintro⟨⟨a,b⟩,c⟩ ⟨⟨d,e⟩,f⟩ h
 simp at h
 simp [h]) (t,id) h
noncomputable def mLie:=mdl (fun x:TTab×Int×Int=>tabOk x.1∧(0≤x.2.2∧x.2.2≤1000000)) (fun x=>[aTab x.1,aI x.2.1,aI x.2.2]) (fun x=>rTabB (lieT x.1 x.2.1 x.2.2) (decide (0≤atP x.1.1 x.2.1)))
theorem mLie_eq (t:TTab)(id now:Int)(h:tabOk t)(hn:0≤now∧now≤1000000):mLie [aTab t,aI id,aI now]=some (rTabB (lieT t id now) (decide (0≤atP t.1 id))):=mdl_eq (by
 rintro⟨⟨a,b⟩,c,d⟩ ⟨⟨a',b'⟩,c',d'⟩ h
 simp at h
 simp [h]) (t,id,now) ⟨h,hn⟩
theorem pwN_succ (i:Nat):pwN (i+1)=2*pwN i:=by unfold pwN;rw [Nat.pow_succ];omega
theorem pwN_in {i:Nat}(h:i≤5):10≤pwN i∧pwN i≤320∧(pwN i<320↔i<5):=by
 have:i=0∨i=1∨i=2∨i=3∨i=4∨i=5:=by omega
 rcases this with rfl|rfl|rfl|rfl|rfl|rfl<;>decide
theorem lieN_in {b:Int}(h:0≤b):10≤lieN b∧lieN b≤320:=by
 unfold lieN
 split
 ·have:=pwN_in (i:=b.toNat) (by omega)
  omega
 ·omega
theorem shl_in:∀b:Nat,b≤20→10*2^b≤10485760:=fun b hb=>by
 have:2^b≤2^20:=Nat.pow_le_pow_right (by omega) hb
 omega
theorem shl_lie {b:Int}(h0:0≤b)(h:b≤20):IntKind.i64.wrap (10*2^(min b.toNat IntKind.i64.bits))=10*2^b.toNat:=by
 have e64:IntKind.i64.bits=64:=rfl
 rw [e64,Nat.min_eq_left (show b.toNat≤64 by omega)]
 have h1:=shl_in b.toNat (by omega)
 have h2:(0:Int)≤10*2^b.toNat∧(10*2^b.toNat:Int)≤10485760:=by
  have e:(10*2^b.toNat:Int)=((10*2^b.toNat:Nat):Int):=by simp
  rw [e]
  omega
 exact wrap_i64 _ (by omega)
theorem min_lie {b:Int}(h0:0≤b)(h:b≤20):(if(10*2^b.toNat:Int)<320 then(10*2^b.toNat:Int)else 320)=lieN b:=by
 have key:∀k:Nat,k≤20→(if(10*2^k:Int)<320 then(10*2^k:Int)else 320)=lieN (k:Int):=by decide
 have e:((b.toNat:Nat):Int)=b:=by omega
 have:=key b.toNat (by omega)
 rwa [e]at this
theorem goodI_s:Sound Tryz.prog 201 mGood:=by
 refine Sound.mdl Tryz.func201 rfl Tryz.ntmps201 ?_
 rintro⟨⟨l,n⟩,id⟩ w ht
 refine⟨by simp,?_⟩
 replace ht:tabOk (l,n):=ht
 have hΓ:=env_cons (hsO Tryz.func189) tabI_s (env_cons (hsO Tryz.func190) copyTI_s (env_cons (hsO Tryz.func193) atPI_s (env_cons (hsO Tryz.func125) isTime_s env_nil)))
 have hl6:l.length≤6:=tabOk_len ht
 have c1:=mTab_eq (l,n) (show l.length≤_ by omega)
 rw [decide_eq_true ht]at c1
 have c2:=mCopyT_eq (l,n) (show l.length≤_ by omega)
 have c3:=mAtP_eq (l,n) id (show l.length≤_ by omega)
 dsimp only at c3
 have hlen:=rowsF_len cPeer l
 refine zI ?_
 rcases atP_cases l id with⟨k,hk,h1,-⟩|h1
 ·have hrow:=cPeer_row l k hk
  have hv:=fun a b c d=>goodT_at (n:=n) hk h1 (a:=a) (b:=b) (c:=c) (d:=d)
  rw [h1]at c3
  generalize l[k]=p at*
  obtain⟨a,b,c,d⟩:=p
  replace hv:=Lib.hid (hv a b c d rfl)
  have hset:=cPeer_set l k a b c 0
  replace h1:=Lib.hid h1
  dsimp only at hrow
  clear ht
  refine zR ?_
  refine At.retA (by rw [Tryz.results201]) (he:=?_)
  show rTabB (l.set k (a,b,c,0),n) true=rTabB (goodT (l,n) id) (decide (0≤atP l id))
  rw [hv.out,h1.out,decide_eq_true (show(0:Int)≤(k:Int)by omega)]
 ·have hv:=Lib.hid (goodT_no (n:=n) h1)
  rw [h1]at c3
  replace h1:=Lib.hid h1
  clear ht
  refine zR ?_
  refine At.retA (by rw [Tryz.results201]) (he:=?_)
  show rTabB (l,n) false=rTabB (goodT (l,n) id) (decide (0≤atP l id))
  rw [hv.out,h1.out]
  rfl
theorem lieI_s:Sound Tryz.prog 202 mLie:=by
 refine Sound.mdl Tryz.func202 rfl Tryz.ntmps202 ?_
 rintro⟨⟨l,n⟩,id,now⟩ w ⟨ht,hn0,hn1⟩
 refine⟨by simp,?_⟩
 replace ht:tabOk (l,n):=ht
 replace hn0:0≤now:=hn0
 replace hn1:now≤1000000:=hn1
 have hΓ:=env_cons (hsO Tryz.func189) tabI_s (env_cons (hsO Tryz.func190) copyTI_s (env_cons (hsO Tryz.func193) atPI_s (env_cons (hsO Tryz.func125) isTime_s env_nil)))
 have hl6:l.length≤6:=tabOk_len ht
 have c1:=mTab_eq (l,n) (show l.length≤_ by omega)
 rw [decide_eq_true ht]at c1
 have c2:=mCopyT_eq (l,n) (show l.length≤_ by omega)
 have c3:=mAtP_eq (l,n) id (show l.length≤_ by omega)
 dsimp only at c3
 have hlen:=rowsF_len cPeer l
 have c4:=mTime_eq now
 rw [decide_eq_true ⟨hn0,hn1⟩]at c4
 refine zI ?_
 rcases atP_cases l id with⟨k,hk,h1,-⟩|h1
 ·have hrow:=cPeer_row l k hk
  have hv:=fun a b c d=>lieT_at (n:=n) (now:=now) hk h1 (a:=a) (b:=b) (c:=c) (d:=d)
  have hp:=tabOk_at ht (k:=k) hk
  dsimp only at hp
  rw [h1]at c3
  generalize l[k]=p at*
  obtain⟨a,b,c,d⟩:=p
  obtain⟨-,-,d0,d1⟩:=hp
  replace hv:=Lib.hid (hv a b c d rfl)
  replace h1:=Lib.hid h1
  dsimp only at hrow d0 d1
  have hset:=cPeer_set l k a b (now+lieN d) d
  have hset2:=cPeer_set (l.set k (a,b,now+lieN d,d)) k a b (now+lieN d) (min 20 (d+1))
  have hss:(l.set k (a,b,now+lieN d,d)).set k (a,b,now+lieN d,min 20 (d+1))=l.set k (a,b,now+lieN d,min 20 (d+1)):=List.set_set ..
  have hrow2:(rowsF cPeer (l.set k (a,b,now+lieN d,d)))[k]?=some [.sc (.int .i64 a),.sc (.bool b),.sc (.int .i64 (now+lieN d)),.sc (.int .i64 d)]:=by
   have hk2:k<(l.set k (a,b,now+lieN d,d)).length:=by simpa using hk
   rw [cPeer_row _ k hk2,List.getElem_set_self]
  have hlen2:(rowsF cPeer (l.set k (a,b,now+lieN d,d))).length=l.length:=by rw [rowsF_len,List.length_set]
  have hli:=lieN_in d0
  clear ht
  have hsh:=shl_lie d0 d1
  have hmn:=min_lie d0 d1
  have hm20:(if d+1<20 then d+1 else(20:Int))=min 20 (d+1):=by
   split<;>omega
  generalize lieN d=ln at*
  generalize min 20 (d+1)=md at*
  refine zR ?_
  refine At.retA (by rw [Tryz.results202]) (he:=?_)
  show rTabB (l.set k (a,b,now+ln,md),n) true=rTabB (lieT (l,n) id now) (decide (0≤atP l id))
  rw [hv.out,h1.out,decide_eq_true (show(0:Int)≤(k:Int)by omega)]
 ·have hv:=Lib.hid (lieT_no (n:=n) (now:=now) h1)
  rw [h1]at c3
  replace h1:=Lib.hid h1
  clear ht
  refine zR ?_
  refine At.retA (by rw [Tryz.results202]) (he:=?_)
  show rTabB (l,n) false=rTabB (lieT (l,n) id now) (decide (0≤atP l id))
  rw [hv.out,h1.out]
  rfl
theorem goodS_s:Sound Tryz.prog 211 mGood:=by
 refine Sound.mdl Tryz.func211 rfl Tryz.ntmps211 ?_
 rintro⟨⟨l,n⟩,id⟩ w ht
 refine⟨by simp,?_⟩
 replace ht:tabOk (l,n):=ht
 have hΓ:=env_cons (hsO Tryz.func207) tabS_s (env_cons (hsO Tryz.func208) copyTS_s (env_cons (hsO Tryz.func209) atPS_s (env_cons (hsO Tryz.func74) l10Time_s env_nil)))
 have hl6:l.length≤6:=tabOk_len ht
 have c1:=mTab_eq (l,n) (show l.length≤_ by omega)
 rw [decide_eq_true ht]at c1
 have c2:=mCopyT_eq (l,n) (show l.length≤_ by omega)
 have c3:=mAtP_eq (l,n) id (show l.length≤_ by omega)
 dsimp only at c3
 have hlen:=rowsF_len cPeer l
 refine zI ?_
 rcases atP_cases l id with⟨k,hk,h1,-⟩|h1
 ·have hrow:=cPeer_row l k hk
  have hv:=fun a b c d=>goodT_at (n:=n) hk h1 (a:=a) (b:=b) (c:=c) (d:=d)
  rw [h1]at c3
  generalize l[k]=p at*
  obtain⟨a,b,c,d⟩:=p
  replace hv:=Lib.hid (hv a b c d rfl)
  have hset:=cPeer_set l k a b c 0
  replace h1:=Lib.hid h1
  dsimp only at hrow
  clear ht
  refine zR ?_
  refine At.retA (by rw [Tryz.results211]) (he:=?_)
  show rTabB (l.set k (a,b,c,0),n) true=rTabB (goodT (l,n) id) (decide (0≤atP l id))
  rw [hv.out,h1.out,decide_eq_true (show(0:Int)≤(k:Int)by omega)]
 ·have hv:=Lib.hid (goodT_no (n:=n) h1)
  rw [h1]at c3
  replace h1:=Lib.hid h1
  clear ht
  refine zR ?_
  refine At.retA (by rw [Tryz.results211]) (he:=?_)
  show rTabB (l,n) false=rTabB (goodT (l,n) id) (decide (0≤atP l id))
  rw [hv.out,h1.out]
  rfl
theorem lieS_s:Sound Tryz.prog 212 mLie:=by
 refine Sound.mdl Tryz.func212 rfl Tryz.ntmps212 ?_
 rintro⟨⟨l,n⟩,id,now⟩ w ⟨ht,hn0,hn1⟩
 refine⟨by simp,?_⟩
 replace ht:tabOk (l,n):=ht
 replace hn0:0≤now:=hn0
 replace hn1:now≤1000000:=hn1
 have hΓ:=env_cons (hsO Tryz.func207) tabS_s (env_cons (hsO Tryz.func208) copyTS_s (env_cons (hsO Tryz.func209) atPS_s (env_cons (hsO Tryz.func74) l10Time_s env_nil)))
 have hl6:l.length≤6:=tabOk_len ht
 have c1:=mTab_eq (l,n) (show l.length≤_ by omega)
 rw [decide_eq_true ht]at c1
 have c2:=mCopyT_eq (l,n) (show l.length≤_ by omega)
 have c3:=mAtP_eq (l,n) id (show l.length≤_ by omega)
 dsimp only at c3
 have hlen:=rowsF_len cPeer l
 have c4:=mTime_eq now
 rw [decide_eq_true ⟨hn0,hn1⟩]at c4
 refine zI ?_
 rcases atP_cases l id with⟨k,hk,h1,-⟩|h1
 ·have hrow:=cPeer_row l k hk
  have hv:=fun a b c d=>lieT_at (n:=n) (now:=now) hk h1 (a:=a) (b:=b) (c:=c) (d:=d)
  have hp:=tabOk_at ht (k:=k) hk
  dsimp only at hp
  rw [h1]at c3
  generalize l[k]=p at*
  obtain⟨a,b,c,d⟩:=p
  obtain⟨-,-,d0,d1⟩:=hp
  replace hv:=Lib.hid (hv a b c d rfl)
  replace h1:=Lib.hid h1
  dsimp only at hrow d0 d1
  have hset:=cPeer_set l k a b (now+lieN d) d
  have hset2:=cPeer_set (l.set k (a,b,now+lieN d,d)) k a b (now+lieN d) (min 20 (d+1))
  have hss:(l.set k (a,b,now+lieN d,d)).set k (a,b,now+lieN d,min 20 (d+1))=l.set k (a,b,now+lieN d,min 20 (d+1)):=List.set_set ..
  have hrow2:(rowsF cPeer (l.set k (a,b,now+lieN d,d)))[k]?=some [.sc (.int .i64 a),.sc (.bool b),.sc (.int .i64 (now+lieN d)),.sc (.int .i64 d)]:=by
   have hk2:k<(l.set k (a,b,now+lieN d,d)).length:=by simpa using hk
   rw [cPeer_row _ k hk2,List.getElem_set_self]
  have hlen2:(rowsF cPeer (l.set k (a,b,now+lieN d,d))).length=l.length:=by rw [rowsF_len,List.length_set]
  have hli:=lieN_in d0
  clear ht
  refine zR ?_
  refine W.loopA (fun i:Nat=>i≤5∧(i:Int)≤d) (fun i:Nat=>[.slot 2 (vI now),.slot 6 (one (.ptr 6 0)),.blk 6 (.box [.nil,.sc (.int .i64 0)]),.slot 8 (one (.ptr 8 0)),.blk 8 (.box [.all 17,.sc (.int .i64 n)]),.blk 17 (.arr .ft 209 4 (rowsF cPeer l)),.slot 9 (vI k),.slot 10 (vI (pwN i)),.slot 11 (vI i)]) (fun i=>5-i) 0 ⟨by omega,d0⟩ (h:=?_)
  rintro i ⟨hi5,hid⟩
  obtain⟨p0,p1,p2⟩:=pwN_in hi5
  have p3:=pwN_succ i
  by_cases hgo:(i:Int)<d∧i<5
  ·obtain⟨g1,g2⟩:=hgo
   have p4:=p2.2 g2
   clear p2
   generalize hP:pwN (i+1)=P1 at*
   generalize pwN i=P0 at*
   subst p3
   refine zR ?_
   refine At.roundA (i+1) ⟨by omega,by omega⟩ (by omega) (hs:=?_)
   rw [hP]
   exact subP
  ·have hlie:pwN i=lieN d:=by
    unfold lieN
    rcases Int.lt_or_le (i:Int) d with g1|g1
    ·have g2:¬i<5:=fun g2=>hgo ⟨g1,g2⟩
     have:i=5:=by omega
     subst this
     rw [if_neg (by omega)]
     rfl
    ·have e:d=(i:Int):=by omega
     subst e
     split
     ·rfl
     ·have:i=5:=by omega
      subst this
      rfl
   have hng:¬((i:Int)<d)∨¬(pwN i<320):=by
    by_cases g1:(i:Int)<d
    ·exact .inr fun g2=>hgo ⟨g1,p2.1 g2⟩
    ·exact .inl g1
   clear p2 p3 hgo
   rw [hlie]at p0 p1 hng
   rw [hlie]
   have hm20:d<20→min 20 (d+1)=d+1:=fun h=>by omega
   have hm19:¬d<20→min 20 (d+1)=d:=fun h=>by omega
   clear hlie
   generalize lieN d=ln at*
   rcases hng with g|g
   ·by_cases g20:d<20
    ·rw [hm20 g20]at hv hset2 hss
     clear hm20 hm19
     refine zR ?_
     refine W.drawB hΓ 12 [[],[0],[],[],[3],[],[3,4,5],[3,4,5,6],[3,4,5,6,7],[3,4,5,6,7,8],[0,1,2,3,4,5,6,7,8,9],[0,1,2,3,4,5,6,7,8,9,10],[0,1,2,3,4,5,6,7,8,9,10,11]] (Es:=?Es24) (rest:=?rest24) (st1:=?st124) ?_
     refine zQ ?_
     refine At.retA (by rw [Tryz.results212]) (he:=?_)
     show rTabB (l.set k (a,b,now+ln,d+1),n) true=rTabB (lieT (l,n) id now) (decide (0≤atP l id))
     rw [hv.out,h1.out,decide_eq_true (show(0:Int)≤(k:Int)by omega)]
    ·exfalso
     omega
   ·by_cases g1:(i:Int)<d
    ·by_cases g20:d<20
     ·rw [hm20 g20]at hv hset2 hss
      clear hm20 hm19
      refine zR ?_
      refine W.drawB hΓ 12 [[],[0],[],[],[3],[],[3,4,5],[3,4,5,6],[3,4,5,6,7],[3,4,5,6,7,8],[0,1,2,3,4,5,6,7,8,9],[0,1,2,3,4,5,6,7,8,9,10],[0,1,2,3,4,5,6,7,8,9,10,11]] (Es:=?Es28) (rest:=?rest28) (st1:=?st128) ?_
      refine zQ ?_
      refine At.retA (by rw [Tryz.results212]) (he:=?_)
      show rTabB (l.set k (a,b,now+ln,d+1),n) true=rTabB (lieT (l,n) id now) (decide (0≤atP l id))
      rw [hv.out,h1.out,decide_eq_true (show(0:Int)≤(k:Int)by omega)]
     ·rw [hm19 g20]at hv hset2 hss
      clear hm20 hm19
      refine zR ?_
      refine At.retA (by rw [Tryz.results212]) (he:=?_)
      show rTabB (l.set k (a,b,now+ln,d),n) true=rTabB (lieT (l,n) id now) (decide (0≤atP l id))
      rw [hv.out,h1.out,decide_eq_true (show(0:Int)≤(k:Int)by omega)]
    ·by_cases g20:d<20
     ·rw [hm20 g20]at hv hset2 hss
      clear hm20 hm19
      refine zR ?_
      refine W.drawB hΓ 12 [[],[0],[],[],[3],[],[3,4,5],[3,4,5,6],[3,4,5,6,7],[3,4,5,6,7,8],[0,1,2,3,4,5,6,7,8,9],[0,1,2,3,4,5,6,7,8,9,10],[0,1,2,3,4,5,6,7,8,9,10,11]] (Es:=?Es34) (rest:=?rest34) (st1:=?st134) ?_
      refine zQ ?_
      refine At.retA (by rw [Tryz.results212]) (he:=?_)
      show rTabB (l.set k (a,b,now+ln,d+1),n) true=rTabB (lieT (l,n) id now) (decide (0≤atP l id))
      rw [hv.out,h1.out,decide_eq_true (show(0:Int)≤(k:Int)by omega)]
     ·exfalso
      omega
 ·have hv:=Lib.hid (lieT_no (n:=n) (now:=now) h1)
  rw [h1]at c3
  replace h1:=Lib.hid h1
  clear ht
  refine zR ?_
  refine At.retA (by rw [Tryz.results212]) (he:=?_)
  show rTabB (l,n) false=rTabB (lieT (l,n) id now) (decide (0≤atP l id))
  rw [hv.out,h1.out]
  rfl
end
section
def freeP (l:List TPeer):Int:=idxP (fun p=>!p.2.1) l
def addT (t:TTab)(id:Int)(pin:Bool):TTab×Bool:=
 if 0≤atP t.1 id∨¬(1≤id∧id≤99)then(t,false)
 else if t.1.length<6 then((t.1++[(id,pin,0,0)],t.2),true)
 else if freeP t.1<0 then(t,false)
 else((t.1.eraseIdx (freeP t.1).toNat++[(id,pin,0,0)],t.2),true)
abbrev rAdd (y:TTab×Bool):Res:=rTabB y.1 y.2
noncomputable def mAddP:=mdl (fun x:TTab×Int×Bool=>tabOk x.1) (fun x=>[aTab x.1,aI x.2.1,aB x.2.2]) (fun x=>rAdd (addT x.1 x.2.1 x.2.2))
theorem mAddP_eq (t:TTab)(id:Int)(pin:Bool)(h:tabOk t):mAddP [aTab t,aI id,aB pin]=some (rAdd (addT t id pin)):=mdl_eq (by
 rintro⟨⟨a,b⟩,c,d⟩ ⟨⟨a',b'⟩,c',d'⟩ h
 simp at h
 simp [h]) (t,id,pin) h
theorem freeP_cases (l:List TPeer):(∃k,∃hk:k<l.length,freeP l=(k:Int)∧l[k].2.1=false∧∀j,(hj:j<k)→l[j].2.1=true)∨(freeP l= -1∧∀j,(hj:j<l.length)→l[j].2.1=true):=by
 rcases idxP_cases' (fun p:TPeer=>!p.2.1) l with⟨k,hk,h1,h2,h3⟩|⟨h1,h2⟩
 ·exact .inl ⟨k,hk,h1,by simpa using h2,fun j hj=>by simpa using h3 j hj⟩
 ·exact .inr ⟨h1,fun j hj=>by simpa using h2 j hj⟩
theorem addT_no {t:TTab}{id:Int}{pin:Bool}(h:0≤atP t.1 id∨¬(1≤id∧id≤99)):addT t id pin=(t,false):=if_pos h
theorem addT_room {t:TTab}{id:Int}{pin:Bool}(h:atP t.1 id= -1)(hi:1≤id∧id≤99)(hl:t.1.length<6):addT t id pin=((t.1++[(id,pin,0,0)],t.2),true):=by
 unfold addT
 rw [if_neg (fun q=>by rcases q with q|q;· omega
                       ·exact q hi),if_pos hl]
theorem addT_full {t:TTab}{id:Int}{pin:Bool}(h:atP t.1 id= -1)(hi:1≤id∧id≤99)(hl:¬t.1.length<6)(hf:freeP t.1= -1):addT t id pin=(t,false):=by
 unfold addT
 rw [if_neg (fun q=>by rcases q with q|q;· omega
                       ·exact q hi),if_neg hl,if_pos (by omega)]
theorem addT_swap {t:TTab}{id:Int}{pin:Bool}{k:Nat}(h:atP t.1 id= -1)(hi:1≤id∧id≤99)(hl:¬t.1.length<6)(hf:freeP t.1=(k:Int)):addT t id pin=((t.1.eraseIdx k++[(id,pin,0,0)],t.2),true):=by
 unfold addT
 rw [if_neg (fun q=>by rcases q with q|q;· omega
                       ·exact q hi),if_neg hl,if_neg (by omega),hf]
 rfl
noncomputable def mPinP:=mdl (fun _:TPeer=>True) (fun p=>[aPeer p]) (fun p=>rB (!p.2.1))
theorem mPinP_eq (p:TPeer):mPinP [aPeer p]=some (rB (!p.2.1)):=mdl_eq (by
 rintro⟨a,b,c,d⟩ ⟨a',b',c',d'⟩ h
 simp at h
 simp [h]) p trivial
theorem pinP_s:Sound Tryz.prog 192 mPinP:=by
 refine Sound.mdl Tryz.func192 rfl Tryz.ntmps192 ?_
 rintro⟨a,b,c,d⟩ w-
 refine⟨by simp,?_⟩
 have hΓ:=eN
 refine zJ ?_
 refine At.retA (by rw [Tryz.results192]) (he:=rfl)
theorem addPI_s:Sound Tryz.prog 147 mAddP:=by
 refine Sound.mdl Tryz.func147 rfl Tryz.ntmps147 ?_
 rintro⟨⟨l,n⟩,id,pin⟩ w ht
 refine⟨by simp,?_⟩
 replace ht:tabOk (l,n):=ht
 have hΓ:GSound Tryz.prog (look [(189,mTab),(190,mCopyT),(193,mAtP),(139,mWithin),(191,mIdxP 192 [] (fun p=>!p.2.1))]):=env_cons (hsO Tryz.func189) tabI_s (env_cons (hsO Tryz.func190) copyTI_s (env_cons (hsO Tryz.func193) atPI_s (env_cons (hsO Tryz.func139) within_s (env_cons (hsO Tryz.func191) (idxP_s (hsO Tryz.func192) pinP_s (fun x=>mPinP_eq x)) env_nil))))
 have hDl:Has Tryz.prog 194:=hsO Tryz.func194
 have hl6:l.length≤6:=tabOk_len ht
 have c1:=mTab_eq (l,n) (show l.length≤_ by omega)
 rw [decide_eq_true ht]at c1
 have c2:=mCopyT_eq (l,n) (show l.length≤_ by omega)
 have c3:=mAtP_eq (l,n) id (show l.length≤_ by omega)
 dsimp only at c3
 have hlen:=rowsF_len cPeer l
 have happ:=fun q:List TPeer=>cPeer_app q id pin 0 0
 clear ht
 have c4:=mIdxP_eq 192 [] (fun p=>!p.2.1) l (by omega)
 have hfr:idxP (fun p:TPeer=>!p.2.1) l=freeP l:=rfl
 rw [hfr]at c4
 clear hfr
 have c5:=mWithin_eq id 1 99
 refine zI ?_
 rcases atP_cases l id with⟨k,hk,h1,-⟩|h1
 ·have hv:=Lib.hid (addT_no (t:=(l,n)) (id:=id) (pin:=pin) (.inl (by show 0≤atP l id;omega)))
  rw [h1]at c3
  clear h1 happ
  have hfin: -1≤freeP l∧freeP l≤6:=by
   rcases freeP_cases l with⟨j,hj,e,-⟩|⟨e,-⟩
   ·rw [e];omega
   ·rw [e];omega
  generalize freeP l=fp at*
  by_cases h2:1≤id∧id≤99
  ·rw [decide_eq_true h2]at c5
   refine zR ?_
   refine At.retA (by rw [Tryz.results147]) (he:=?_)
   show rTabB (l,n) false=rAdd (addT (l,n) id pin)
   rw [hv.out]
  ·rw [decide_eq_false h2]at c5
   refine zR ?_
   refine At.retA (by rw [Tryz.results147]) (he:=?_)
   show rTabB (l,n) false=rAdd (addT (l,n) id pin)
   rw [hv.out]
 ·rw [h1]at c3
  by_cases h2:1≤id∧id≤99
  ·have hroom:=fun h=>addT_room (t:=(l,n)) (pin:=pin) h1 h2 h
   have hfull:=fun h hf=>addT_full (t:=(l,n)) (pin:=pin) h1 h2 h hf
   have hswap:=fun(k:Nat) h hf=>addT_swap (t:=(l,n)) (pin:=pin) (k:=k) h1 h2 h hf
   rw [decide_eq_true h2]at c5
   clear h1 h2
   by_cases h6:l.length<6
   ·have hv:=Lib.hid (hroom h6)
    have hne:¬l.length=6:=by omega
    have hnz:¬(l.length:Int)=6:=by omega
    clear hroom hfull hswap
    have e1:=happ l
    clear happ
    have hfin: -1≤freeP l∧freeP l≤6:=by
     rcases freeP_cases l with⟨j,hj,e,-⟩|⟨e,-⟩
     ·rw [e];omega
     ·rw [e];omega
    generalize freeP l=fp at*
    refine zR ?_
    refine At.retA (by rw [Tryz.results147]) (he:=?_)
    show rTabB (l++[(id,pin,0,0)],n) true=rAdd (addT (l,n) id pin)
    rw [hv.out]
   ·have he:(l.length:Int)=6:=by omega
    rcases freeP_cases l with⟨k,hk,hf,-⟩|⟨hf,-⟩
    ·have hv:=Lib.hid (hswap k h6 hf)
     rw [hf]at c4
     clear hroom hfull hswap hf h6
     have e1:=happ (l.eraseIdx k)
     clear happ
     have hel:(l.eraseIdx k).length=l.length-1:=List.length_eraseIdx_of_lt hk
     have hell:=rowsF_len cPeer (l.eraseIdx k)
     have hx5:(l.eraseIdx k).length≤5:=by omega
     refine zV ?_
     refine WL.opDel (n:=16) (enc:=cPeer) (s:=4) (e:=209) (fl:=.ft) hDl delPeer_s (fun _=>rfl) l k hk (by omega) (by decide) (by decide) (hp:=?q1) (h1:=?q2) (h2:=?q3) (hb:=?q4) ?_
     case q1=>exact evsP
     case q2=>exact evsP
     case q3=>exact evsP
     case q4=>exact evsP
     generalize l.eraseIdx k=q at*
     refine zQ ?_
     refine At.retA (by rw [Tryz.results147]) (he:=?_)
     show rTabB (q++[(id,pin,0,0)],n) true=rAdd (addT (l,n) id pin)
     rw [hv.out]
    ·have hv:=Lib.hid (hfull h6 hf)
     rw [hf]at c4
     clear hroom hfull hswap hf h6 happ
     refine zR ?_
     refine At.retA (by rw [Tryz.results147]) (he:=?_)
     show rTabB (l,n) false=rAdd (addT (l,n) id pin)
     rw [hv.out]
  ·have hv:=Lib.hid (addT_no (t:=(l,n)) (id:=id) (pin:=pin) (.inr h2))
   rw [decide_eq_false h2]at c5
   have hfin: -1≤freeP l∧freeP l≤6:=by
    rcases freeP_cases l with⟨j,hj,e,-⟩|⟨e,-⟩
    ·rw [e];omega
    ·rw [e];omega
   generalize freeP l=fp at*
   clear h1 h2 happ
   refine zR ?_
   refine At.retA (by rw [Tryz.results147]) (he:=?_)
   show rTabB (l,n) false=rAdd (addT (l,n) id pin)
   rw [hv.out]
end
section
theorem addPS_s:Sound Tryz.prog 159 mAddP:=by
 refine Sound.mdl Tryz.func159 rfl Tryz.ntmps159 ?_
 rintro⟨⟨l,n⟩,id,pin⟩ w ht
 refine⟨by simp,?_⟩
 replace ht:tabOk (l,n):=ht
 have hΓ:=env_cons (hsO Tryz.func207) tabS_s (env_cons (hsO Tryz.func208) copyTS_s (env_cons (hsO Tryz.func209) atPS_s (env_cons (hsO Tryz.func39) l1In_s env_nil)))
 have hl6:l.length≤6:=tabOk_len ht
 have c1:=mTab_eq (l,n) (show l.length≤_ by omega)
 rw [decide_eq_true ht]at c1
 have c2:=mCopyT_eq (l,n) (show l.length≤_ by omega)
 have c3:=mAtP_eq (l,n) id (show l.length≤_ by omega)
 dsimp only at c3
 have hlen:=rowsF_len cPeer l
 have happ:=fun q:List TPeer=>cPeer_app q id pin 0 0
 clear ht
 have c5:=mIn_eq id 1 99
 refine zI ?_
 rcases atP_cases l id with⟨k,hk,h1,-⟩|h1
 ·have hv:=Lib.hid (addT_no (t:=(l,n)) (id:=id) (pin:=pin) (.inl (by show 0≤atP l id;omega)))
  rw [h1]at c3
  clear h1 happ
  refine zR ?_
  refine At.retA (by rw [Tryz.results159]) (he:=?_)
  show rTabB (l,n) false=rAdd (addT (l,n) id pin)
  rw [hv.out]
 ·rw [h1]at c3
  by_cases h2:1≤id∧id≤99
  ·have hroom:=fun h=>addT_room (t:=(l,n)) (pin:=pin) h1 h2 h
   have hfull:=fun h hf=>addT_full (t:=(l,n)) (pin:=pin) h1 h2 h hf
   have hswap:=fun(k:Nat) h hf=>addT_swap (t:=(l,n)) (pin:=pin) (k:=k) h1 h2 h hf
   rw [decide_eq_true h2]at c5
   clear h1 h2
   by_cases h6:l.length<6
   ·have hv:=Lib.hid (hroom h6)
    clear hroom hfull hswap
    have e1:=happ l
    clear happ
    refine zR ?_
    refine At.retA (by rw [Tryz.results159]) (he:=?_)
    show rTabB (l++[(id,pin,0,0)],n) true=rAdd (addT (l,n) id pin)
    rw [hv.out]
   ·have he:(6:Int)≤l.length:=by omega
    have hex:∀j:Nat,(∀i,(hi:i<j)→(hj:i<l.length)→l[i].2.1=true)→∀hj:j<l.length,l[j].2.1=false→freeP l=(j:Int):=fun j hI hj hp=>by
     unfold freeP
     exact idxP_at (p:=fun p:TPeer=>!p.2.1) hj (fun i hi=>by simp [hI i hi (by omega)]) (by simp [hp])
    have hno:(∀i,(hj:i<l.length)→l[i].2.1=true)→freeP l= -1:=fun hI=>by
     unfold freeP
     exact idxP_no (p:=fun p:TPeer=>!p.2.1) (fun i hi=>by simp [hI i hi])
    replace hfull:=Lib.hid (hfull h6)
    replace hswap:=Lib.hid (fun k=>hswap k h6)
    replace hex:=Lib.hid hex
    replace hno:=Lib.hid hno
    clear hroom h6
    refine zR ?_
    refine W.loopA (fun j=>j≤l.length∧∀i,(hi:i<j)→(hj:i<l.length)→l[i].2.1=true) (fun j:Nat=>[.slot 1 (vI id),.slot 2 (vB pin),.slot 6 (one (.ptr 6 0)),.blk 6 (.box [.nil,.sc (.int .i64 0)]),.slot 8 (one (.ptr 8 0)),.blk 8 (.box [.all 16,.sc (.int .i64 n)]),.blk 16 (.arr .ft 209 4 (rowsF cPeer l)),.slot 9 (vI j)]) (fun j=>l.length-j) 0 ⟨Nat.zero_le _,fun i hi=>by omega⟩ (h:=?_)
    rintro j ⟨hj,hI⟩
    by_cases hlt:j<l.length
    ·have hrow:=cPeer_row l j hlt
     cases hp:l[j].2.1 with
     |true=>
      have hnx:∀i,(hi:i<j+1)→(hj:i<l.length)→l[i].2.1=true:=fun i hi hj=>by
       rcases Nat.lt_or_ge i j with h|h
       ·exact hI i h hj
       ·have:i=j:=by omega
        subst this
        exact hp
      replace hnx:=Lib.hid hnx
      rw [hp]at hrow
      clear hI hp
      generalize l[j]=x at*
      refine zR ?_
      exact At.roundA (j+1) ⟨by omega,hnx.out⟩ (by omega)
     |false=>
      have hv:=Lib.hid (hswap.out j (hex.out j hI hlt hp))
      rw [hp]at hrow
      clear hI hp hex hno hswap hfull
      have hw:=rowsF_wid (f:=cPeer) (s:=4) (fun _=>rfl) l
      have hw1:wid 4 ((rowsF cPeer l).take j):=fun row hr=>hw row (List.mem_of_mem_take hr)
      have hw2:wid 4 (((rowsF cPeer l).drop (j+1)).take (l.length-(j+1))):=fun row hr=>hw row (List.mem_of_mem_drop (List.mem_of_mem_take hr))
      have hl1:((rowsF cPeer l).take j).length=j:=by rw [List.length_take];omega
      have hl2:(((rowsF cPeer l).drop (j+1)).take (l.length-(j+1))).length=l.length-(j+1):=by rw [List.length_take,List.length_drop];omega
      have hn1:([]:List (List Leaf))++(rowsF cPeer l).take j=(rowsF cPeer l).take j:=rfl
      have hj1:((j:Int)+1).toNat=j+1:=by omega
      have hj0:j-0=j:=Nat.sub_zero j
      have hcat:(rowsF cPeer l).take j++((rowsF cPeer l).drop (j+1)).take (l.length-(j+1))=rowsF cPeer (l.eraseIdx j):=by
       unfold rowsF
       rw [List.take_of_length_le (i:=l.length-(j+1)) (by simp),←List.map_take,←List.map_drop,←List.map_append,List.eraseIdx_eq_take_drop_succ]
      have hcat2:¬j+1<l.length→(rowsF cPeer l).take j++[]=rowsF cPeer (l.eraseIdx j):=fun h=>by
       rw [←hcat,show l.length-(j+1)=0 by omega,List.take_zero]
      have e1:=happ (l.eraseIdx j)
      have hel:(l.eraseIdx j).length=l.length-1:=List.length_eraseIdx_of_lt hlt
      have hell:=rowsF_len cPeer (l.eraseIdx j)
      have hx5:(l.eraseIdx j).length≤5:=by omega
      have hne:¬(j:Int)=(l.length:Int):=by omega
      clear happ hw
      generalize l.eraseIdx j=q at*
      generalize l[j]=x at*
      have hfa:flatB ((rowsF cPeer l).take j)=true:=List.all_eq_true.2 fun row hr=>by
       obtain⟨y,_,rfl⟩:=List.mem_map.1 (List.mem_of_mem_take hr)
       rfl
      have hfb:flatB (((rowsF cPeer l).drop (j+1)).take (l.length-(j+1)))=true:=List.all_eq_true.2 fun row hr=>by
       obtain⟨y,_,rfl⟩:=List.mem_map.1 (List.mem_of_mem_drop (List.mem_of_mem_take hr))
       rfl
      by_cases hlast:j+1<l.length
      ·clear hcat2
       refine zR ?_
       refine At.retA (by rw [Tryz.results159]) (he:=?_)
       show rTabB (q++[(id,pin,0,0)],n) true=rAdd (addT (l,n) id pin)
       rw [hv.out]
      ·replace hcat2:=hcat2 hlast
       clear hcat hw2 hl2 hfb
       have hz:(l.length:Int)=(j:Int)+1:=by omega
       refine zR ?_
       refine At.retA (by rw [Tryz.results159]) (he:=?_)
       show rTabB (q++[(id,pin,0,0)],n) true=rAdd (addT (l,n) id pin)
       rw [hv.out]
    ·have hje:j=l.length:=by omega
     subst hje
     have hv:=Lib.hid (hfull.out (hno.out fun i hi=>hI i hi hi))
     clear hI hex hno hswap hfull happ
     refine zR ?_
     refine At.retA (by rw [Tryz.results159]) (he:=?_)
     show rTabB (l,n) false=rAdd (addT (l,n) id pin)
     rw [hv.out]
  ·have hv:=Lib.hid (addT_no (t:=(l,n)) (id:=id) (pin:=pin) (.inr h2))
   rw [decide_eq_false h2]at c5
   clear h1 h2 happ
   refine zR ?_
   refine At.retA (by rw [Tryz.results159]) (he:=?_)
   show rTabB (l,n) false=rAdd (addT (l,n) id pin)
   rw [hv.out]
end
end Go.Proofs.YtfgkfcfplodaoaaGreatDoor
