/-
  Put together out of 2 texts.
-/
import Derived.Test.YtfgkfcfplodaoaaGreatDoorK8
import Derived.Test.YtfgkfcfplodaoaaGreatDoorK5
import Derived.Test.YtfgkfcfplodaoaaGreatDoorK6
import Derived.Test.YtfgkfcfplodaoaaGreatDoorK10
set_option linter.unusedSimpArgs false
set_option linter.unusedVariables false
set_option maxRecDepth 100000
set_option maxHeartbeats 16000000
namespace Go.Proofs.YtfgkfcfplodaoaaGreatDoor
open Go Go.RowKit
section
def newX (t:TTrust)(b:TBlock)(now:Int):TLight:=(t,1,(b.1,b.2.2.1),([b.1],1),([],0),now)
noncomputable def newB (t:TTrust)(b:TBlock)(now:Int):Bool:=decide (blockOk b)&&(decide (lightOk (newX t b now))&&decide (now≤expT t b.1.2.1))
abbrev rLtN (x:TLight):List RL:=[.ro (.sc (.int .i64 x.1.1)),.ro (.sc (.int .i64 x.1.2)),.ro (.sc (.int .i64 x.2.1)),.ro (.sc (.int .i64 x.2.2.1.1.1)),.ro (.sc (.int .i64 x.2.2.1.1.2.1)),.ro (.sc (.string x.2.2.1.1.2.2.1)),.ro (.sc (.string x.2.2.1.1.2.2.2.1)),.ro (.sc (.string x.2.2.1.1.2.2.2.2.1)),.ro (.sc (.string x.2.2.1.1.2.2.2.2.2)),.own .ft 76 2 (rowsF cVal x.2.2.1.2),.own .ft 30 6 (rowsF cHeader x.2.2.2.1.1),.ro (.sc (.int .i64 x.2.2.2.1.2)),.ro (.sl []),.ro (.sc (.int .i64 x.2.2.2.2.1.2)),.ro (.sc (.int .i64 x.2.2.2.2.2))]
abbrev rLtZ:List RL:=[.ro (.sc (.int .i64 0)),.ro (.sc (.int .i64 0)),.ro (.sc (.int .i64 0)),.ro (.sc (.int .i64 0)),.ro (.sc (.int .i64 0)),.ro (.sc (.string ByteArray.empty)),.ro (.sc (.string ByteArray.empty)),.ro (.sc (.string ByteArray.empty)),.ro (.sc (.string ByteArray.empty)),.ro (.sl []),.ro (.sl []),.ro (.sc (.int .i64 0)),.ro (.sl []),.ro (.sc (.int .i64 0)),.ro (.sc (.int .i64 0))]
abbrev rNew (x:TLight)(b:Bool):Res:=if b=true then .tup [(true,rLtN x),rSc (.bool true)]else .tup [(true,rLtZ),rSc (.bool false)]
abbrev TNew:=TTrust×TBlock×Int
abbrev aNew (x:TNew):List Arg:=[aTr x.1,aBk x.2.1,aI x.2.2]
theorem aNew_inj:∀x y,aNew x=aNew y→x=y:=by
 rintro⟨⟨p,s⟩,b,n⟩ ⟨⟨p',s'⟩,b',n'⟩ h
 have h2:[aBk b]=[aBk b']:=by injection h with _ h;injection h with h _;rw [h]
 have h3:=aBk_inj _ _ h2
 simp at h
 simp [h,h3]
noncomputable def mNew:=mdl (fun x:TNew=>okBkS x.2.1) aNew (fun x=>rNew (newX x.1 x.2.1 x.2.2) (newB x.1 x.2.1 x.2.2))
theorem mNew_eq (t:TTrust)(b:TBlock)(now:Int)(h:okBkS b):mNew [aTr t,aBk b,aI now]=some (rNew (newX t b now) (newB t b now)):=mdl_eq aNew_inj (t,b,now) h
abbrev rLtB (x:TLight)(b:Bool):Res:=.tup [(true,rLt x),rSc (.bool b)]
noncomputable def mSeen:=mdl (fun x:TLight×Int=>lightOk x.1) (fun x=>[aLt x.1,aI x.2]) (fun x=>rHdB (getHd x.1.2.2.2.1 x.2))
theorem mSeen_eq (x:TLight)(n:Int)(h:lightOk x):mSeen [aLt x,aI n]=some (rHdB (getHd x.2.2.2.1 n)):=mdl_eq (by
 rintro⟨a,b⟩ ⟨a',b'⟩ h
 have h1:aLt a=aLt a':=by injection h
 have h2:=aLt_inj h1
 simp at h
 simp [h,h2]) (x,n) h
theorem lightOk_len {x:TLight}(h:lightOk x):x.2.2.1.2.length≤7∧x.2.2.2.1.1.length≤20∧x.2.2.2.2.1.1.length≤6:=⟨h.2.1.2.1.1.2,h.2.2.1.1.1,tabOk_len h.2.2.2.1⟩
theorem seenI_s:Sound Tryz.prog 150 mSeen:=by
 refine Sound.mdl Tryz.func150 rfl Tryz.ntmps150 ?_
 rintro⟨⟨⟨p,s⟩,st,⟨⟨h1,h2,h3,h4,h5,h6⟩,v⟩,⟨l,n⟩,⟨q,m⟩,now⟩,k⟩ w hx
 refine⟨by simp,?_⟩
 replace hx:lightOk ((p,s),st,((h1,h2,h3,h4,h5,h6),v),(l,n),(q,m),now):=hx
 have hΓ:=env_cons (hsO Tryz.func195) lightI_s (env_cons (hsO Tryz.func197) getStI_s env_nil)
 have hn:=lightOk_len hx
 dsimp only at hn
 have c1:=mLight_eq ((p,s),st,((h1,h2,h3,h4,h5,h6),v),(l,n),(q,m),now) ⟨show v.length≤_ by omega,show l.length≤_ by omega,show q.length≤_ by omega⟩
 rw [decide_eq_true hx]at c1
 have c2:=mGetSt_eq (l,n) k (show l.length≤_ by omega)
 have hlen:=rowsF_len cHeader l
 clear hx
 generalize getHd (l,n) k=y at*
 obtain⟨⟨y1,y2,y3,y4,y5,y6⟩,yb⟩:=y
 refine zJ ?_
 refine At.retA (by rw [Tryz.results150]) (he:=rfl)
def tickX (x:TLight)(d:Int):TLight:=(x.1,if expT x.1 x.2.2.1.1.2.1<x.2.2.2.2.2+d then 2 else x.2.1,x.2.2.1,x.2.2.2.1,x.2.2.2.2.1,x.2.2.2.2.2+d)
def tickB (x:TLight)(d:Int):Bool:=decide (1≤d∧d≤1000)&&decide (0≤x.2.2.2.2.2+d∧x.2.2.2.2.2+d≤1000000)
def tickL (x:TLight)(d:Int):TLight:=if tickB x d=true then tickX x d else x
noncomputable def mTick:=mdl (fun x:TLight×Int=>lightOk x.1) (fun x=>[aLt x.1,aI x.2]) (fun x=>rLtB (tickL x.1 x.2) (tickB x.1 x.2))
theorem mTick_eq (x:TLight)(d:Int)(h:lightOk x):mTick [aLt x,aI d]=some (rLtB (tickL x d) (tickB x d)):=mdl_eq (by
 rintro⟨a,b⟩ ⟨a',b'⟩ h
 have h1:aLt a=aLt a':=by injection h
 have h2:=aLt_inj h1
 simp at h
 simp [h,h2]) (x,d) h
theorem tickI_s:Sound Tryz.prog 149 mTick:=by
 refine Sound.mdl Tryz.func149 rfl Tryz.ntmps149 ?_
 rintro⟨⟨⟨p,s⟩,st,⟨⟨h1,h2,h3,h4,h5,h6⟩,v⟩,⟨l,n⟩,⟨q,m⟩,now⟩,d⟩ w hx
 refine⟨by simp,?_⟩
 replace hx:lightOk ((p,s),st,((h1,h2,h3,h4,h5,h6),v),(l,n),(q,m),now):=hx
 have hΓ:=env_cons (hsO Tryz.func195) lightI_s (env_cons (hsO Tryz.func196) copyLI_s (env_cons (hsO Tryz.func139) within_s (env_cons (hsO Tryz.func125) isTime_s (env_cons (hsO Tryz.func126) expI_s env_nil))))
 have hn:=lightOk_len hx
 dsimp only at hn
 have c1:=mLight_eq ((p,s),st,((h1,h2,h3,h4,h5,h6),v),(l,n),(q,m),now) ⟨show v.length≤_ by omega,show l.length≤_ by omega,show q.length≤_ by omega⟩
 rw [decide_eq_true hx]at c1
 have c2:=mCopyL_eq ((p,s),st,((h1,h2,h3,h4,h5,h6),v),(l,n),(q,m),now) ⟨show v.length≤_ by omega,show l.length≤_ by omega,show q.length≤_ by omega⟩
 have c3:=mWithin_eq d 1 1000
 have c4:=mTime_eq (now+d)
 have c5:=mExp_eq (p,s) h2
 have hnow:0≤now∧now≤1000000:=hx.2.2.2.2.2.1
 have hlen1:=rowsF_len cVal v
 have hlen2:=rowsF_len cHeader l
 have hlen3:=rowsF_len cPeer q
 have hB:tickB ((p,s),st,((h1,h2,h3,h4,h5,h6),v),(l,n),(q,m),now) d=(decide (1≤d∧d≤1000)&&decide (0≤now+d∧now+d≤1000000)):=rfl
 have hL:tickL ((p,s),st,((h1,h2,h3,h4,h5,h6),v),(l,n),(q,m),now) d=if tickB ((p,s),st,((h1,h2,h3,h4,h5,h6),v),(l,n),(q,m),now) d=true then((p,s),if expT (p,s) h2<now+d then 2 else st,((h1,h2,h3,h4,h5,h6),v),(l,n),(q,m),now+d)else((p,s),st,((h1,h2,h3,h4,h5,h6),v),(l,n),(q,m),now):=rfl
 rw [hB]at hL
 clear hx
 generalize expT (p,s) h2=ex at*
 refine zI ?_
 by_cases g1:1≤d∧d≤1000
 ·rw [decide_eq_true g1]at c3 hB hL
  by_cases g2:0≤now+d∧now+d≤1000000
  ·rw [decide_eq_true g2]at c4 hB hL
   rw [if_pos (show(true&&true)=true from rfl)]at hL
   by_cases g3:ex<now+d
   ·rw [if_pos g3]at hL
    replace hB:=Lib.hid hB
    replace hL:=Lib.hid hL
    refine zR ?_
    refine W.drawB hΓ 10 [[],[0],[],[2],[],[4],[4,5],[4,5,6],[2,3,4,5,6,7],[0,1,2,3,4,5,6,7,8]] (Es:=?Es8) (rest:=?rest8) (st1:=?st18) ?_
    refine zQ ?_
    refine At.retA (by rw [Tryz.results149]) (he:=?_)
    rw [hB.out,hL.out]
    rfl
   ·rw [if_neg g3]at hL
    replace hB:=Lib.hid hB
    replace hL:=Lib.hid hL
    refine zR ?_
    refine W.drawB hΓ 10 [[],[0],[],[2],[],[4],[4,5],[4,5,6],[2,3,4,5,6,7],[0,1,2,3,4,5,6,7,8]] (Es:=?Es12) (rest:=?rest12) (st1:=?st112) ?_
    refine zQ ?_
    refine At.retA (by rw [Tryz.results149]) (he:=?_)
    rw [hB.out,hL.out]
    rfl
  ·rw [decide_eq_false g2]at c4 hB hL
   rw [if_neg (by simp)]at hL
   replace hB:=Lib.hid hB
   replace hL:=Lib.hid hL
   refine zR ?_
   refine At.retA (by rw [Tryz.results149]) (he:=?_)
   rw [hB.out,hL.out]
   rfl
 ·rw [decide_eq_false g1]at c3 hB hL
  rw [if_neg (by simp)]at hL
  replace hB:=Lib.hid hB
  replace hL:=Lib.hid hL
  clear c4
  refine zR ?_
  refine At.retA (by rw [Tryz.results149]) (he:=?_)
  rw [hB.out,hL.out]
  rfl
theorem copyBI_s:Sound Tryz.prog 152 mCopyB:=by
 refine Sound.mdl Tryz.func152 rfl Tryz.ntmps152 ?_
 rintro⟨⟨h,t,la,va,ne,da⟩,b1,b2,⟨ch,cr,ci,cs⟩⟩ w ⟨h1,h2,h3⟩
 refine⟨by simp,?_⟩
 dsimp only at h1 h2 h3
 have hΓ:=env_cons (hsO Tryz.func70) copyV_s env_nil
 have c1:=mCopyV_eq b1 h1
 have c2:=mCopyV_eq b2 h2
 have k1:=rowsF_len cVal b1
 have k2:=rowsF_len cVal b2
 have k3:=rowsF_len cCSig cs
 have w1:=rowsF_wid (f:=cVal) (s:=2) (fun _=>rfl) b1
 have w2:=rowsF_wid (f:=cVal) (s:=2) (fun _=>rfl) b2
 have w3:=rowsF_wid (f:=cCSig) (s:=2) (fun _=>rfl) cs
 refine zJ ?_
 refine At.retA (by rw [Tryz.results152]) (he:=rfl)
theorem newI_s:Sound Tryz.prog 151 mNew:=by
 refine Sound.mdl Tryz.func151 rfl Tryz.ntmps151 ?_
 rintro⟨⟨p,s⟩,⟨⟨h,t,la,va,ne,da⟩,b1,b2,⟨ch,cr,ci,cs⟩⟩,now⟩ w ⟨h1,h2,h3⟩
 refine⟨by simp,?_⟩
 dsimp only at h1 h2 h3
 have hΓ:=env_cons (hsO Tryz.func70) copyV_s (env_cons (hsO Tryz.func124) blkOkI_s (env_cons (hsO Tryz.func195) lightI_s (env_cons (hsO Tryz.func126) expI_s env_nil)))
 have c1:=mCopyV_eq b2 h2
 have c2:=mBlock_eq ((h,t,la,va,ne,da),b1,b2,(ch,cr,ci,cs)) ⟨show b1.length≤_ by omega,show b2.length≤_ by omega,show cs.length≤_ by omega⟩
 have c3:=mLight_eq (newX (p,s) ((h,t,la,va,ne,da),b1,b2,(ch,cr,ci,cs)) now) ⟨show b2.length≤_ by omega,Nat.le_trans (Nat.le_of_eq rfl:[(h,t,la,va,ne,da)].length≤1) (by decide),Nat.zero_le _⟩
 have c4:=mExp_eq (p,s) t
 have hB:newB (p,s) ((h,t,la,va,ne,da),b1,b2,(ch,cr,ci,cs)) now=(decide (blockOk ((h,t,la,va,ne,da),b1,b2,(ch,cr,ci,cs)))&&(decide (lightOk (newX (p,s) ((h,t,la,va,ne,da),b1,b2,(ch,cr,ci,cs)) now))&&decide (now≤expT (p,s) t))):=rfl
 have k2:=rowsF_len cVal b2
 generalize decide (lightOk (newX (p,s) ((h,t,la,va,ne,da),b1,b2,(ch,cr,ci,cs)) now))=lb at*
 generalize expT (p,s) t=ex at*
 have hx:newX (p,s) ((h,t,la,va,ne,da),b1,b2,(ch,cr,ci,cs)) now=((p,s),1,((h,t,la,va,ne,da),b2),([(h,t,la,va,ne,da)],1),([],0),now):=rfl
 rw [hx]at c3
 have hr1:rowsF cHeader [(h,t,la,va,ne,da)]=[[.sc (.int .i64 h),.sc (.int .i64 t),.sc (.string la),.sc (.string va),.sc (.string ne),.sc (.string da)]]:=rfl
 have hr2:rowsF cPeer []=[]:=rfl
 dsimp only [aLt,lLt]at c3
 rw [hr1,hr2]at c3
 refine zI ?_
 by_cases g1:blockOk ((h,t,la,va,ne,da),b1,b2,(ch,cr,ci,cs))
 ·rw [decide_eq_true g1]at c2 hB
  cases lb with
  |true=>
   by_cases g3:now≤ex
   ·rw [decide_eq_true g3]at hB
    replace hB:=Lib.hid hB
    clear g1
    refine zR ?_
    refine W.drawB hΓ 14 [[],[],[1],[],[3],[3,4],[1,2,3,4,5],[],[7],[7,8],[7,8,9],[],[0,1,2,3,4,5,6,7,8,9,10,11],[],[0,1,2,3,4,5,6,7,8,9,10,11,12,13]] (Es:=?Es26) (rest:=?rest26) (st1:=?st126) ?_
    refine zQ ?_
    refine At.retA (by rw [Tryz.results151]) (he:=?_)
    rw [hB.out]
    rfl
   ·rw [decide_eq_false g3]at hB
    replace hB:=Lib.hid hB
    clear g1
    refine zR ?_
    refine W.drawB hΓ 14 [[],[],[1],[],[3],[3,4],[1,2,3,4,5],[],[7],[7,8],[7,8,9],[],[0,1,2,3,4,5,6,7,8,9,10,11],[],[0,1,2,3,4,5,6,7,8,9,10,11,12,13]] (Es:=?Es30) (rest:=?rest30) (st1:=?st130) ?_
    refine zQ ?_
    refine At.retA (by rw [Tryz.results151]) (he:=?_)
    rw [hB.out]
    rfl
  |false=>
   rw [Bool.false_and]at hB
   replace hB:=Lib.hid hB
   clear g1 c4
   refine zR ?_
   refine W.drawB hΓ 14 [[],[],[1],[],[3],[3,4],[1,2,3,4,5],[],[7],[7,8],[7,8,9],[],[0,1,2,3,4,5,6,7,8,9,10,11],[],[0,1,2,3,4,5,6,7,8,9,10,11,12,13]] (Es:=?Es34) (rest:=?rest34) (st1:=?st134) ?_
   refine zQ ?_
   refine At.retA (by rw [Tryz.results151]) (he:=?_)
   rw [hB.out]
   rfl
 ·rw [decide_eq_false g1,Bool.false_and]at hB
  rw [decide_eq_false g1]at c2
  replace hB:=Lib.hid hB
  clear g1 c4 c3
  refine zR ?_
  refine W.drawB hΓ 14 [[],[],[1],[],[3],[3,4],[1,2,3,4,5],[],[7],[7,8],[7,8,9],[],[0,1,2,3,4,5,6,7,8,9,10,11],[],[0,1,2,3,4,5,6,7,8,9,10,11,12,13]] (Es:=?Es38) (rest:=?rest38) (st1:=?st138) ?_
  refine zQ ?_
  refine At.retA (by rw [Tryz.results151]) (he:=?_)
  rw [hB.out]
  rfl
end
section
def feedNo (x:TLight)(id:Int):Prop:=¬x.2.1=1∨atP x.2.2.2.2.1.1 id<0∨id∈banL x.2.2.2.2.1.1 x.2.2.2.2.2
instance (x:TLight)(id:Int):Decidable (feedNo x id):=by unfold feedNo;infer_instance
def verL (x:TLight)(b:TBlock):Int:=verifyC x.1 x.2.2.1 b.1 b.2.2.1 b.2.2.2 x.2.2.2.2.2
def feedC (x:TLight)(id:Int)(b:TBlock):Int:=if feedNo x id then 1 else verL x b
noncomputable def feedY (x:TLight)(id:Int)(b:TBlock):TLight:=(x.1,x.2.1,(b.1,b.2.2.1),((addSt x.2.2.2.1 b.1).1.1,((addSt x.2.2.2.1 b.1).1.1.length:Int)),goodT x.2.2.2.2.1 id,x.2.2.2.2.2)
def feedZ (x:TLight)(id:Int):TLight:=(x.1,x.2.1,x.2.2.1,x.2.2.2.1,lieT x.2.2.2.2.1 id x.2.2.2.2.2,x.2.2.2.2.2)
noncomputable def feedX (x:TLight)(id:Int)(b:TBlock):TLight:=if feedNo x id then x else if verL x b=0 then feedY x id b else if 5≤verL x b then feedZ x id else x
theorem feed_no {x:TLight}{id:Int}{b:TBlock}(h:feedNo x id):feedX x id b=x∧feedC x id b=1:=⟨if_pos h,if_pos h⟩
theorem feed_go {x:TLight}{id:Int}{b:TBlock}(h1:x.2.1=1)(h2:0≤atP x.2.2.2.2.1.1 id)(h3:¬id∈banL x.2.2.2.2.1.1 x.2.2.2.2.2):feedX x id b=(if verL x b=0 then feedY x id b else if 5≤verL x b then feedZ x id else x)∧feedC x id b=verL x b:=by
 have hn:¬feedNo x id:=fun h=>by
  rcases h with h|h|h
  ·exact h h1
  ·omega
  ·exact h3 h
 exact⟨if_neg hn,if_neg hn⟩
abbrev TFeed:=TLight×Int×TBlock
abbrev aFeed (x:TFeed):List Arg:=[aLt x.1,aI x.2.1,aBk x.2.2]
theorem aFeed_inj:∀x y,aFeed x=aFeed y→x=y:=by
 rintro⟨a,i,b⟩ ⟨a',i',b'⟩ h
 have h1:aLt a=aLt a':=by injection h
 have h2:[aBk b]=[aBk b']:=by injection h with _ h;injection h
 have h3:aI i=aI i':=by injection h with _ h;injection h
 have h4:i=i':=by simpa using h3
 rw [aLt_inj h1,aBk_inj _ _ h2,h4]
abbrev okFeed (x:TFeed):Prop:=lightOk x.1∧okBkS x.2.2∧x.1.2.2.2.1.1.length<20
abbrev rLtI (x:TLight)(n:Int):Res:=.tup [(true,rLt x),rSc (.int .i64 n)]
noncomputable def mFeed:=mdl okFeed aFeed (fun x=>rLtI (feedX x.1 x.2.1 x.2.2) (feedC x.1 x.2.1 x.2.2))
theorem mFeed_eq (x:TLight)(id:Int)(b:TBlock)(h:okFeed (x,id,b)):mFeed [aLt x,aI id,aBk b]=some (rLtI (feedX x id b) (feedC x id b)):=mdl_eq aFeed_inj (x,id,b) h
theorem addSt_ok {t:TStore}{h:THeader}(ht:storeOk t):storeOk (addSt t h).1:=by
 unfold addSt
 split
 ·rename_i h1
  exact of_decide_eq_true h1
 ·exact ht
theorem feedI_s:Sound Tryz.prog 153 mFeed:=by
 refine Sound.mdl Tryz.func153 rfl Tryz.ntmps153 ?_
 rintro⟨⟨⟨p,s⟩,st,⟨⟨h1,h2,h3,h4,h5,h6⟩,v⟩,⟨l,n⟩,⟨q,m⟩,now⟩,id,⟨⟨h,t,la,va,ne,da⟩,b1,b2,⟨ch,cr,ci,cs⟩⟩⟩ w ⟨hx,⟨hb1,hb2,hb3⟩,hl20⟩
 refine⟨by simp,?_⟩
 replace hx:lightOk ((p,s),st,((h1,h2,h3,h4,h5,h6),v),(l,n),(q,m),now):=hx
 replace hl20:l.length<20:=hl20
 dsimp only at hb1 hb2 hb3
 have hΓ:=env_cons (hsO Tryz.func195) lightI_s (env_cons (hsO Tryz.func196) copyLI_s (env_cons (hsO Tryz.func193) atPI_s (env_cons (hsO Tryz.func145) banI_s (env_cons (hsO Tryz.func171) cont_s (env_cons (hsO Tryz.func61) verifyI_s (env_cons (hsO Tryz.func199) addStI_s (env_cons (hsO Tryz.func200) syncStI_s (env_cons (hsO Tryz.func201) goodI_s (env_cons (hsO Tryz.func202) lieI_s env_nil)))))))))
 have hn:=lightOk_len hx
 dsimp only at hn
 have hst:storeOk (l,n):=hx.2.2.1
 have htb:tabOk (q,m):=hx.2.2.2.1
 have hnow:0≤now∧now≤1000000:=hx.2.2.2.2.2.1
 have c1:=mLight_eq ((p,s),st,((h1,h2,h3,h4,h5,h6),v),(l,n),(q,m),now) ⟨show v.length≤_ by omega,show l.length≤_ by omega,show q.length≤_ by omega⟩
 rw [decide_eq_true hx]at c1
 have c2:=mCopyL_eq ((p,s),st,((h1,h2,h3,h4,h5,h6),v),(l,n),(q,m),now) ⟨show v.length≤_ by omega,show l.length≤_ by omega,show q.length≤_ by omega⟩
 have c3:=mAtP_eq (q,m) id (show q.length≤_ by omega)
 have c4:=mBan_eq (q,m) now htb hnow
 have hbl:(banL q now).length≤99:=banK_len q now 99
 have c5:=mCont_eq (banL q now) id (by omega)
 have c6:=mVerify_eq (p,s) ((h1,h2,h3,h4,h5,h6),v) (h,t,la,va,ne,da) b2 (ch,cr,ci,cs) now ⟨show v.length≤_ by omega,hb2,hb3⟩
 have c7:=mAddSt_eq (l,n) (h,t,la,va,ne,da) hst
 have has:storeOk (addSt (l,n) (h,t,la,va,ne,da)).1:=addSt_ok hst
 have c8:=mSyncSt_eq _ has
 have hal:=storeOk_len has
 have c9:=mGood_eq (q,m) id htb
 have c10:=mLie_eq (q,m) id now htb hnow
 have hno:feedNo ((p,s),st,((h1,h2,h3,h4,h5,h6),v),(l,n),(q,m),now) id→_:=fun h'=>feed_no (b:=((h,t,la,va,ne,da),b1,b2,(ch,cr,ci,cs))) h'
 have hgo:=fun a1 a2 a3=>feed_go (x:=((p,s),st,((h1,h2,h3,h4,h5,h6),v),(l,n),(q,m),now)) (id:=id) (b:=((h,t,la,va,ne,da),b1,b2,(ch,cr,ci,cs))) a1 a2 a3
 have hN:feedNo ((p,s),st,((h1,h2,h3,h4,h5,h6),v),(l,n),(q,m),now) id=(¬st=1∨atP q id<0∨id∈banL q now):=rfl
 rw [hN]at hno
 have hA:verifyA (p,s) ((h1,h2,h3,h4,h5,h6),v) (h,t,la,va,ne,da) b2 (ch,cr,ci,cs) now=if verifyC (p,s) ((h1,h2,h3,h4,h5,h6),v) (h,t,la,va,ne,da) b2 (ch,cr,ci,cs) now=0 then((h,t,la,va,ne,da),b2)else((h1,h2,h3,h4,h5,h6),v):=rfl
 rw [hA]at c6
 unfold verL feedY feedZ at hgo
 dsimp only at c3 c4 hgo c7 c8 hal
 have hlen1:=rowsF_len cVal v
 have hlen2:=rowsF_len cHeader l
 have hlen3:=rowsF_len cPeer q
 have hlen4:=rowsF_len cInt (banL q now)
 clear hN hA hx hst htb has
 generalize hvc:verifyC (p,s) ((h1,h2,h3,h4,h5,h6),v) (h,t,la,va,ne,da) b2 (ch,cr,ci,cs) now=vc at*
 clear hvc
 generalize addSt (l,n) (h,t,la,va,ne,da)=ad at*
 obtain⟨⟨l',n'⟩,ab⟩:=ad
 generalize goodT (q,m) id=gt at*
 obtain⟨q1,m1⟩:=gt
 generalize lieT (q,m) id now=lt at*
 obtain⟨q2,m2⟩:=lt
 generalize atP q id=ap at*
 generalize banL q now=bl at*
 dsimp only at c7 c8 hgo hal
 have hlen5:=rowsF_len cHeader l'
 refine zI ?_
 by_cases g1:st=1
 ·by_cases g2:ap<0
  ·have hv:=Lib.hid (hno (.inr (.inl g2)))
   clear hno hgo
   subst g1
   refine zR ?_
   refine At.retA (by rw [Tryz.results153]) (he:=?_)
   show rLtI ((p,s),1,((h1,h2,h3,h4,h5,h6),v),(l,n),(q,m),now) 1=_
   rw [hv.out.1,hv.out.2]
  ·by_cases g3:id∈bl
   ·have hv:=Lib.hid (hno (.inr (.inr g3)))
    clear hno hgo
    rw [decide_eq_true g3]at c5
    subst g1
    refine zR ?_
    refine At.retA (by rw [Tryz.results153]) (he:=?_)
    show rLtI ((p,s),1,((h1,h2,h3,h4,h5,h6),v),(l,n),(q,m),now) 1=_
    rw [hv.out.1,hv.out.2]
   ·have hv:=hgo g1 (by omega) g3
    clear hno hgo
    rw [decide_eq_false g3]at c5
    subst g1
    by_cases g4:vc=0
    ·rw [if_pos g4]at hv c6
     replace hv:=Lib.hid hv
     subst g4
     refine zR ?_
     refine At.retA (by rw [Tryz.results153]) (he:=?_)
     rw [hv.out.1,hv.out.2]
    ·rw [if_neg g4]at hv c6
     by_cases g5:5≤vc
     ·rw [if_pos g5]at hv
      replace hv:=Lib.hid hv
      refine zR ?_
      refine At.retA (by rw [Tryz.results153]) (he:=?_)
      rw [hv.out.1,hv.out.2]
     ·rw [if_neg g5]at hv
      replace hv:=Lib.hid hv
      refine zR ?_
      refine At.retA (by rw [Tryz.results153]) (he:=?_)
      rw [hv.out.1,hv.out.2]
 ·have hv:=Lib.hid (hno (.inl g1))
  clear hno hgo
  refine zR ?_
  refine At.retA (by rw [Tryz.results153]) (he:=?_)
  rw [hv.out.1,hv.out.2]
end
end Go.Proofs.YtfgkfcfplodaoaaGreatDoor
