/-
  Put together out of 1 texts.
-/
import Derived.Test.YtfgkfcfplodaoaaGreatDoorK4
set_option linter.unusedSimpArgs false
set_option linter.unusedVariables false
set_option maxRecDepth 100000
set_option maxHeartbeats 8000000
namespace Go.Proofs.YtfgkfcfplodaoaaGreatDoor
open Go Go.RowKit
section
def verifyC (t:TTrust)(a:TAnchor)(h:THeader)(n:List TVal)(c:TCommit)(now:Int):Int:=
 if¬(trustOk t∧anchorOk a∧headOk h∧(0≤now∧now≤1000000))then 1
 else if a.1.2.1+t.1<now then 2
 else if now+t.2<h.2.1 then 3
 else if¬h.1=a.1.1+1 then 4
 else if h.2.1≤a.1.2.1 then 5
 else if¬h.2.2.1=headId a.1 then 6
 else if¬h.2.2.2.1=a.1.2.2.2.2.1 then 7
 else if¬h.2.2.2.2.1=vhash n then 8
 else if¬commitOk a.2 h c then 9
 else 0
def verifyA (t:TTrust)(a:TAnchor)(h:THeader)(n:List TVal)(c:TCommit)(now:Int):TAnchor:=if verifyC t a h n c now=0 then(h,n)else a
abbrev TVf:=TTrust×TAnchor×THeader×List TVal×TCommit×Int
abbrev okVf (x:TVf):Prop:=okAn x.2.1∧x.2.2.2.1.length≤1048576∧x.2.2.2.2.1.2.2.2.length≤1048576
abbrev aVf (x:TVf):List Arg:=[aTr x.1,aAn x.2.1,aHd x.2.2.1,aL cVal x.2.2.2.1,aCm x.2.2.2.2.1,aI x.2.2.2.2.2]
theorem aVf_inj:∀x y,aVf x=aVf y→x=y:=by
 rintro⟨⟨p,s⟩,⟨⟨a,b,c,d,e,f⟩,l⟩,⟨ba,bb,bc,bd,be,bf⟩,bn,⟨g,h,i,j⟩,nw⟩ ⟨⟨p',s'⟩,⟨⟨a',b',c',d',e',f'⟩,l'⟩,⟨ba',bb',bc',bd',be',bf'⟩,bn',⟨g',h',i',j'⟩,nw'⟩ h
 simp [aVf,aTr,aAn,aHd,aCm,csig_inj]at h
 simp [h]
noncomputable def mVerify:=mdl okVf aVf (fun x=>rSk (verifyA x.1 x.2.1 x.2.2.1 x.2.2.2.1 x.2.2.2.2.1 x.2.2.2.2.2) (verifyC x.1 x.2.1 x.2.2.1 x.2.2.2.1 x.2.2.2.2.1 x.2.2.2.2.2))
theorem mVerify_eq (t:TTrust)(a:TAnchor)(h:THeader)(n:List TVal)(c:TCommit)(now:Int)(hok:okVf (t,a,h,n,c,now)):mVerify [aTr t,aAn a,aHd h,aL cVal n,aCm c,aI now]=some (rSk (verifyA t a h n c now) (verifyC t a h n c now)):=mdl_eq aVf_inj (t,a,h,n,c,now) hok
noncomputable def mVerified:=mdl okVf aVf (fun x=>rI (verifyC x.1 x.2.1 x.2.2.1 x.2.2.2.1 x.2.2.2.2.1 x.2.2.2.2.2))
theorem mVerified_eq (t:TTrust)(a:TAnchor)(h:THeader)(n:List TVal)(c:TCommit)(now:Int)(hok:okVf (t,a,h,n,c,now)):mVerified [aTr t,aAn a,aHd h,aL cVal n,aCm c,aI now]=some (rI (verifyC t a h n c now)):=mdl_eq aVf_inj (t,a,h,n,c,now) hok
abbrev okWhy (x:TVf):Prop:=okVf x∧trustOk x.1∧anchorOk x.2.1∧headOk x.2.2.1∧(0≤x.2.2.2.2.2∧x.2.2.2.2.2≤1000000)
noncomputable def mWhy:=mdl okWhy aVf (fun x=>rI (verifyC x.1 x.2.1 x.2.2.1 x.2.2.2.1 x.2.2.2.2.1 x.2.2.2.2.2))
theorem mWhy_eq (t:TTrust)(a:TAnchor)(h:THeader)(n:List TVal)(c:TCommit)(now:Int)(hok:okWhy (t,a,h,n,c,now)):mWhy [aTr t,aAn a,aHd h,aL cVal n,aCm c,aI now]=some (rI (verifyC t a h n c now)):=mdl_eq aVf_inj (t,a,h,n,c,now) hok
theorem verify_ways (t:TTrust)(a:TAnchor)(h:THeader)(n:List TVal)(c:TCommit)(now:Int):
  (decide (trustOk t)=false∧verifyC t a h n c now=1)∨
  (decide (trustOk t)=true∧decide (anchorOk a)=false∧verifyC t a h n c now=1)∨
  (decide (trustOk t)=true∧decide (anchorOk a)=true∧decide (headOk h)=false∧verifyC t a h n c now=1)∨
  (decide (trustOk t)=true∧decide (anchorOk a)=true∧decide (headOk h)=true∧decide (0≤now∧now≤1000000)=false∧verifyC t a h n c now=1)∨
  (decide (trustOk t)=true∧decide (anchorOk a)=true∧decide (headOk h)=true∧decide (0≤now∧now≤1000000)=true∧a.1.2.1+t.1<now∧verifyC t a h n c now=2)∨
  (decide (trustOk t)=true∧decide (anchorOk a)=true∧decide (headOk h)=true∧decide (0≤now∧now≤1000000)=true∧¬a.1.2.1+t.1<now∧now+t.2<h.2.1∧verifyC t a h n c now=3)∨
  (decide (trustOk t)=true∧decide (anchorOk a)=true∧decide (headOk h)=true∧decide (0≤now∧now≤1000000)=true∧¬a.1.2.1+t.1<now∧¬now+t.2<h.2.1∧¬h.1=a.1.1+1∧verifyC t a h n c now=4)∨
  (decide (trustOk t)=true∧decide (anchorOk a)=true∧decide (headOk h)=true∧decide (0≤now∧now≤1000000)=true∧¬a.1.2.1+t.1<now∧¬now+t.2<h.2.1∧h.1=a.1.1+1∧h.2.1≤a.1.2.1∧verifyC t a h n c now=5)∨
  (decide (trustOk t)=true∧decide (anchorOk a)=true∧decide (headOk h)=true∧decide (0≤now∧now≤1000000)=true∧¬a.1.2.1+t.1<now∧¬now+t.2<h.2.1∧h.1=a.1.1+1∧¬h.2.1≤a.1.2.1∧decide (h.2.2.1=headId a.1)=false∧verifyC t a h n c now=6)∨
  (decide (trustOk t)=true∧decide (anchorOk a)=true∧decide (headOk h)=true∧decide (0≤now∧now≤1000000)=true∧¬a.1.2.1+t.1<now∧¬now+t.2<h.2.1∧h.1=a.1.1+1∧¬h.2.1≤a.1.2.1∧decide (h.2.2.1=headId a.1)=true∧decide (h.2.2.2.1=a.1.2.2.2.2.1)=false∧verifyC t a h n c now=7)∨
  (decide (trustOk t)=true∧decide (anchorOk a)=true∧decide (headOk h)=true∧decide (0≤now∧now≤1000000)=true∧¬a.1.2.1+t.1<now∧¬now+t.2<h.2.1∧h.1=a.1.1+1∧¬h.2.1≤a.1.2.1∧decide (h.2.2.1=headId a.1)=true∧decide (h.2.2.2.1=a.1.2.2.2.2.1)=true∧decide (h.2.2.2.2.1=vhash n)=false∧verifyC t a h n c now=8)∨
  (decide (trustOk t)=true∧decide (anchorOk a)=true∧decide (headOk h)=true∧decide (0≤now∧now≤1000000)=true∧¬a.1.2.1+t.1<now∧¬now+t.2<h.2.1∧h.1=a.1.1+1∧¬h.2.1≤a.1.2.1∧decide (h.2.2.1=headId a.1)=true∧decide (h.2.2.2.1=a.1.2.2.2.2.1)=true∧decide (h.2.2.2.2.1=vhash n)=true∧decide (commitOk a.2 h c)=false∧verifyC t a h n c now=9)∨
  (decide (trustOk t)=true∧decide (anchorOk a)=true∧decide (headOk h)=true∧decide (0≤now∧now≤1000000)=true∧¬a.1.2.1+t.1<now∧¬now+t.2<h.2.1∧h.1=a.1.1+1∧¬h.2.1≤a.1.2.1∧decide (h.2.2.1=headId a.1)=true∧decide (h.2.2.2.1=a.1.2.2.2.2.1)=true∧decide (h.2.2.2.2.1=vhash n)=true∧decide (commitOk a.2 h c)=true∧verifyC t a h n c now=0):=by
 unfold verifyC
 simp only [decide_eq_true_eq,decide_eq_false_iff_not]
 by_cases h1:trustOk t
 ·by_cases h2:anchorOk a
  ·by_cases h3:headOk h
   ·by_cases h4:0≤now∧now≤1000000
    ·have h0:¬¬(trustOk t∧anchorOk a∧headOk h∧(0≤now∧now≤1000000)):=fun h=>h ⟨h1,h2,h3,h4⟩
     rw [if_neg h0]
     by_cases h5:a.1.2.1+t.1<now
     ·simp [h1,h2,h3,h4,h5]
     by_cases h6:now+t.2<h.2.1
     ·simp [h1,h2,h3,h4,h5,h6]
     by_cases h7:h.1=a.1.1+1
     rotate_left
     ·simp [h1,h2,h3,h4,h5,h6,h7]
     by_cases h8:h.2.1≤a.1.2.1
     ·simp [h1,h2,h3,h4,h5,h6,h7,h8]
     by_cases h9:h.2.2.1=headId a.1
     rotate_left
     ·simp [h1,h2,h3,h4,h5,h6,h7,h8,h9]
     by_cases h10:h.2.2.2.1=a.1.2.2.2.2.1
     rotate_left
     ·simp [h1,h2,h3,h4,h5,h6,h7,h8,h9,h10]
     by_cases h11:h.2.2.2.2.1=vhash n
     rotate_left
     ·simp [h1,h2,h3,h4,h5,h6,h7,h8,h9,h10,h11]
     by_cases h12:commitOk a.2 h c
     rotate_left
     ·simp [h1,h2,h3,h4,h5,h6,h7,h8,h9,h10,h11,h12]
     simp [h1,h2,h3,h4,h5,h6,h7,h8,h9,h10,h11,h12]
    ·simp [h1,h2,h3,h4]
   ·simp [h1,h2,h3]
  ·simp [h1,h2]
 ·simp [h1]
theorem verified_s:Sound Tryz.prog 118 mVerified:=by
 refine Sound.mdl Tryz.func118 rfl Tryz.ntmps118 ?_
 rintro⟨⟨p,s⟩,⟨⟨ah,at_,ala,ava,ane,ada⟩,al⟩,⟨h,t,la,va,ne,da⟩,n,⟨ch,cr,ci,cs⟩,now⟩ w ⟨hal,hn,hc⟩
 refine⟨by simp,?_⟩
 dsimp only at hal hn hc
 replace hal:al.length≤1048576:=hal
 have hΓ:=env_cons (hsO Tryz.func122) trustI_s (env_cons (hsO Tryz.func123) anchorI_s (env_cons (hsO Tryz.func165) headI_s (env_cons (hsO Tryz.func125) isTime_s (env_cons (hsO Tryz.func126) expI_s (env_cons (hsO Tryz.func144) headIdI_s (env_cons (hsO Tryz.func166) vhashI_s (env_cons (hsO Tryz.func167) commitI_s env_nil)))))))
 have c1:=mTrust_eq (p,s)
 have c2:=mAnchor_eq ((ah,at_,ala,ava,ane,ada),al) (by dsimp only;omega)
 have c3:=mHead_eq (h,t,la,va,ne,da)
 have c4:=mTime_eq now
 have c5:=mExp_eq (p,s) at_
 have c6:=mHeadId_eq (ah,at_,ala,ava,ane,ada)
 have c7:=mVHash_eq n (by omega)
 have c8:=mCommit_eq al (h,t,la,va,ne,da) (ch,cr,ci,cs) (by omega) (by show cs.length≤_;omega)
 have q:=verify_ways (p,s) ((ah,at_,ala,ava,ane,ada),al) (h,t,la,va,ne,da) n (ch,cr,ci,cs) now
 have ex:=exp_of (t:=(p,s)) (n:=at_)
 have an:=anchor_num (a:=((ah,at_,ala,ava,ane,ada),al))
 have tn:=trust_num (t:=(p,s))
 dsimp only [aTr,aAn,aHd,aCm]at c1 c2 c3 c5 c6 c8
 dsimp only at q ex an tn
 generalize decide (trustOk (p,s))=d1 at*
 generalize decide (anchorOk ((ah,at_,ala,ava,ane,ada),al))=d2 at*
 generalize hd3:decide (headOk (h,t,la,va,ne,da))=d3 at*
 generalize verifyC (p,s) ((ah,at_,ala,ava,ane,ada),al) (h,t,la,va,ne,da) n (ch,cr,ci,cs) now=code at*
 generalize decide (commitOk al (h,t,la,va,ne,da) (ch,cr,ci,cs))=co at*
 generalize headId (ah,at_,ala,ava,ane,ada)=x at*
 generalize hy:vhash n=y at*
 generalize expT (p,s) at_=ext at*
 clear hd3 hy
 refine zI ?_
 rcases q with⟨rfl,rfl⟩|⟨rfl,rfl,rfl⟩|⟨rfl,rfl,rfl,rfl⟩|⟨rfl,rfl,rfl,q4,rfl⟩|⟨rfl,rfl,rfl,q4,q5,rfl⟩|⟨rfl,rfl,rfl,q4,q5,q6,rfl⟩|⟨rfl,rfl,rfl,q4,q5,q6,q7,rfl⟩|⟨rfl,rfl,rfl,q4,q5,q6,q7,q8,rfl⟩|⟨rfl,rfl,rfl,q4,q5,q6,q7,q8,q9,rfl⟩|⟨rfl,rfl,rfl,q4,q5,q6,q7,q8,q9,q10,rfl⟩|⟨rfl,rfl,rfl,q4,q5,q6,q7,q8,q9,q10,q11,rfl⟩|⟨rfl,rfl,rfl,q4,q5,q6,q7,q8,q9,q10,q11,rfl,rfl⟩|⟨rfl,rfl,rfl,q4,q5,q6,q7,q8,q9,q10,q11,rfl,rfl⟩
 ·clear ex an tn
  refine zR ?_
  refine At.retA (by rw [Tryz.results118]) (he:=rfl)
 ·clear ex an tn
  refine zR ?_
  refine At.retA (by rw [Tryz.results118]) (he:=rfl)
 ·clear ex an tn
  refine zR ?_
  refine At.retA (by rw [Tryz.results118]) (he:=rfl)
 ·clear ex an tn
  rw [q4]at c4
  refine zR ?_
  refine At.retA (by rw [Tryz.results118]) (he:=rfl)
 ·obtain⟨tn1,tn2⟩:=tn rfl
  obtain⟨an1,an2⟩:=an rfl
  have ex:=ex rfl an2
  subst ex
  rw [q4]at c4
  have q4:=of_decide_eq_true q4
  clear tn an
  refine zR ?_
  refine At.retA (by rw [Tryz.results118]) (he:=rfl)
 ·obtain⟨tn1,tn2⟩:=tn rfl
  obtain⟨an1,an2⟩:=an rfl
  have ex:=ex rfl an2
  subst ex
  rw [q4]at c4
  have q4:=of_decide_eq_true q4
  clear tn an
  refine zR ?_
  refine At.retA (by rw [Tryz.results118]) (he:=rfl)
 ·obtain⟨tn1,tn2⟩:=tn rfl
  obtain⟨an1,an2⟩:=an rfl
  have ex:=ex rfl an2
  subst ex
  rw [q4]at c4
  have q4:=of_decide_eq_true q4
  clear tn an
  refine zR ?_
  refine At.retA (by rw [Tryz.results118]) (he:=rfl)
 ·obtain⟨tn1,tn2⟩:=tn rfl
  obtain⟨an1,an2⟩:=an rfl
  have ex:=ex rfl an2
  subst ex
  rw [q4]at c4
  have q4:=of_decide_eq_true q4
  clear tn an
  subst q7
  refine zR ?_
  refine At.retA (by rw [Tryz.results118]) (he:=rfl)
 ·obtain⟨tn1,tn2⟩:=tn rfl
  obtain⟨an1,an2⟩:=an rfl
  have ex:=ex rfl an2
  subst ex
  rw [q4]at c4
  have q4:=of_decide_eq_true q4
  clear tn an
  subst q7
  refine zR ?_
  refine W.drawB hΓ 7 [[],[0],[],[2],[2,3],[0,1,2,3,4],[0,1,2,3,4,5]] (Es:=?Es20) (rest:=?rest20) (st1:=?st120) ?_
  refine zQ ?_
  refine At.retA (by rw [Tryz.results118]) (he:=rfl)
 ·obtain⟨tn1,tn2⟩:=tn rfl
  obtain⟨an1,an2⟩:=an rfl
  have ex:=ex rfl an2
  subst ex
  rw [q4]at c4
  have q4:=of_decide_eq_true q4
  clear tn an
  subst q7
  refine zR ?_
  refine W.drawB hΓ 7 [[],[0],[],[2],[2,3],[0,1,2,3,4],[0,1,2,3,4,5]] (Es:=?Es24) (rest:=?rest24) (st1:=?st124) ?_
  refine zQ ?_
  refine At.retA (by rw [Tryz.results118]) (he:=rfl)
 ·obtain⟨tn1,tn2⟩:=tn rfl
  obtain⟨an1,an2⟩:=an rfl
  have ex:=ex rfl an2
  subst ex
  rw [q4]at c4
  have q4:=of_decide_eq_true q4
  clear tn an
  subst q7
  refine zR ?_
  refine W.drawB hΓ 7 [[],[0],[],[2],[2,3],[0,1,2,3,4],[0,1,2,3,4,5]] (Es:=?Es28) (rest:=?rest28) (st1:=?st128) ?_
  refine zQ ?_
  refine W.drawB hΓ 6 [[],[0],[],[2],[0,1,2,3],[0,1,2,3,4]] (Es:=?Es30) (rest:=?rest30) (st1:=?st130) ?_
  refine zQ ?_
  refine At.retA (by rw [Tryz.results118]) (he:=rfl)
 ·obtain⟨tn1,tn2⟩:=tn rfl
  obtain⟨an1,an2⟩:=an rfl
  have ex:=ex rfl an2
  subst ex
  rw [q4]at c4
  have q4:=of_decide_eq_true q4
  clear tn an
  subst q7
  refine zR ?_
  refine W.drawB hΓ 7 [[],[0],[],[2],[2,3],[0,1,2,3,4],[0,1,2,3,4,5]] (Es:=?Es34) (rest:=?rest34) (st1:=?st134) ?_
  refine zQ ?_
  refine W.drawB hΓ 6 [[],[0],[],[2],[0,1,2,3],[0,1,2,3,4]] (Es:=?Es36) (rest:=?rest36) (st1:=?st136) ?_
  refine zQ ?_
  refine At.retA (by rw [Tryz.results118]) (he:=rfl)
 ·obtain⟨tn1,tn2⟩:=tn rfl
  obtain⟨an1,an2⟩:=an rfl
  have ex:=ex rfl an2
  subst ex
  rw [q4]at c4
  have q4:=of_decide_eq_true q4
  clear tn an
  subst q7
  refine zR ?_
  refine W.drawB hΓ 7 [[],[0],[],[2],[2,3],[0,1,2,3,4],[0,1,2,3,4,5]] (Es:=?Es40) (rest:=?rest40) (st1:=?st140) ?_
  refine zQ ?_
  refine W.drawB hΓ 6 [[],[0],[],[2],[0,1,2,3],[0,1,2,3,4]] (Es:=?Es42) (rest:=?rest42) (st1:=?st142) ?_
  refine zQ ?_
  refine At.retA (by rw [Tryz.results118]) (he:=rfl)
theorem verifyI_s:Sound Tryz.prog 61 mVerify:=by
 refine Sound.mdl Tryz.func61 rfl Tryz.ntmps61 ?_
 rintro⟨⟨p,s⟩,⟨⟨ah,at_,ala,ava,ane,ada⟩,al⟩,⟨h,t,la,va,ne,da⟩,n,⟨ch,cr,ci,cs⟩,now⟩ w ⟨hal,hn,hc⟩
 refine⟨by simp,?_⟩
 dsimp only at hal hn hc
 have hΓ:=env_cons (hsO Tryz.func118) verified_s (env_cons (hsO Tryz.func60) copyAI_s (env_cons (hsO Tryz.func70) copyV_s env_nil))
 have c1:=mVerified_eq (p,s) ((ah,at_,ala,ava,ane,ada),al) (h,t,la,va,ne,da) n (ch,cr,ci,cs) now ⟨hal,hn,hc⟩
 have c2:=mCopyA_eq ((ah,at_,ala,ava,ane,ada),al) hal
 have c3:=mCopyV_eq n hn
 have hA:verifyA (p,s) ((ah,at_,ala,ava,ane,ada),al) (h,t,la,va,ne,da) n (ch,cr,ci,cs) now=if verifyC (p,s) ((ah,at_,ala,ava,ane,ada),al) (h,t,la,va,ne,da) n (ch,cr,ci,cs) now=0 then((h,t,la,va,ne,da),n)else((ah,at_,ala,ava,ane,ada),al):=rfl
 dsimp only [aTr,aAn,aHd,aCm,rAn,rowsAn]at c1 c2
 refine zI ?_
 generalize verifyA (p,s) ((ah,at_,ala,ava,ane,ada),al) (h,t,la,va,ne,da) n (ch,cr,ci,cs) now=an at*
 generalize verifyC (p,s) ((ah,at_,ala,ava,ane,ada),al) (h,t,la,va,ne,da) n (ch,cr,ci,cs) now=code at*
 by_cases h0:code=0
 ·subst h0
  rw [if_pos rfl]at hA
  subst hA
  refine zR ?_
  refine W.drawB hΓ 4 [[],[],[1],[0,1,2],[0,1,2,3],[0,1,2,3,4]] (Es:=?Es48) (rest:=?rest48) (st1:=?st148) ?_
  refine zQ ?_
  refine At.retA (by rw [Tryz.results61]) (he:=rfl)
 ·rw [if_neg h0]at hA
  subst hA
  refine zR ?_
  refine At.retA (by rw [Tryz.results61]) (he:=rfl)
theorem why_s:Sound Tryz.prog 120 mWhy:=by
 refine Sound.mdl Tryz.func120 rfl Tryz.ntmps120 ?_
 rintro⟨⟨p,s⟩,⟨⟨ah,at_,ala,ava,ane,ada⟩,al⟩,⟨h,t,la,va,ne,da⟩,n,⟨ch,cr,ci,cs⟩,now⟩ w ⟨⟨hal,hn,hc⟩,o1,o2,o3,o4⟩
 refine⟨by simp,?_⟩
 dsimp only at hal hn hc o1 o2 o3 o4
 replace hal:al.length≤1048576:=hal
 have hΓ:=env_cons (hsO Tryz.func75) valsS_s (env_cons (hsO Tryz.func13) headIdS_s (env_cons (hsO Tryz.func43) vhashS_s (env_cons (hsO Tryz.func129) commitS_s env_nil)))
 have c6:=mHeadId_eq (ah,at_,ala,ava,ane,ada)
 have c7:=mVHash_eq n (by omega)
 have c9:=mVals_eq n (by omega)
 have c8:=mCommit_eq al (h,t,la,va,ne,da) (ch,cr,ci,cs) (by omega) (by show cs.length≤_;omega)
 have q:=verify_ways (p,s) ((ah,at_,ala,ava,ane,ada),al) (h,t,la,va,ne,da) n (ch,cr,ci,cs) now
 have hv8:decide (ne=vhash n)=true→decide (valsOk n)=true:=fun e=>decide_eq_true (by
  by_cases hv:valsOk n
  ·exact hv
  ·exfalso
   have e:=of_decide_eq_true e
   rw [vhash_no hv]at e
   have h8:(ne.size:Int)=8:=o3.2.2.2.1
   rw [e]at h8
   simp at h8)
 obtain⟨an1,an2⟩:=anchor_num (a:=((ah,at_,ala,ava,ane,ada),al)) (decide_eq_true o2)
 obtain⟨tn1,tn2⟩:=trust_num (t:=(p,s)) (decide_eq_true o1)
 dsimp only at q an1 an2 tn1 tn2
 rw [decide_eq_true o1,decide_eq_true o2,decide_eq_true o3,decide_eq_true o4]at q
 dsimp only [aHd,aCm]at c6 c8
 clear o1 o2 o3
 generalize verifyC (p,s) ((ah,at_,ala,ava,ane,ada),al) (h,t,la,va,ne,da) n (ch,cr,ci,cs) now=code at*
 generalize decide (commitOk al (h,t,la,va,ne,da) (ch,cr,ci,cs))=co at*
 generalize headId (ah,at_,ala,ava,ane,ada)=x at*
 generalize vhash n=y at*
 generalize decide (valsOk n)=dv at*
 refine zI ?_
 rcases q with⟨e,_⟩|⟨_,e,_⟩|⟨_,_,e,_⟩|⟨_,_,_,e,_⟩|⟨-,-,-,-,q5,rfl⟩|⟨-,-,-,-,q5,q6,rfl⟩|⟨-,-,-,-,q5,q6,q7,rfl⟩|⟨-,-,-,-,q5,q6,q7,q8,rfl⟩|⟨-,-,-,-,q5,q6,q7,q8,q9,rfl⟩|⟨-,-,-,-,q5,q6,q7,q8,q9,q10,rfl⟩|⟨-,-,-,-,q5,q6,q7,q8,q9,q10,q11,rfl⟩|⟨-,-,-,-,q5,q6,q7,q8,q9,q10,q11,rfl,rfl⟩|⟨-,-,-,-,q5,q6,q7,q8,q9,q10,q11,rfl,rfl⟩
 ·cases e
 ·cases e
 ·cases e
 ·cases e
 ·clear hv8
  refine zR ?_
  refine At.retA (by rw [Tryz.results120]) (he:=rfl)
 ·clear hv8
  refine zR ?_
  refine At.retA (by rw [Tryz.results120]) (he:=rfl)
 ·clear hv8
  refine zR ?_
  refine At.retA (by rw [Tryz.results120]) (he:=rfl)
 ·clear hv8
  subst q7
  refine zR ?_
  refine At.retA (by rw [Tryz.results120]) (he:=rfl)
 ·clear hv8
  subst q7
  refine zR ?_
  refine W.drawB hΓ 7 [[],[0],[],[2],[2,3],[0,1,2,3,4],[0,1,2,3,4,5]] (Es:=?Es64) (rest:=?rest64) (st1:=?st164) ?_
  refine zQ ?_
  refine At.retA (by rw [Tryz.results120]) (he:=rfl)
 ·clear hv8
  subst q7
  refine zR ?_
  refine W.drawB hΓ 7 [[],[0],[],[2],[2,3],[0,1,2,3,4],[0,1,2,3,4,5]] (Es:=?Es68) (rest:=?rest68) (st1:=?st168) ?_
  refine zQ ?_
  refine At.retA (by rw [Tryz.results120]) (he:=rfl)
 ·clear hv8
  cases dv with
  |false=>
   subst q7
   refine zR ?_
   refine W.drawB hΓ 7 [[],[0],[],[2],[2,3],[0,1,2,3,4],[0,1,2,3,4,5]] (Es:=?Es72) (rest:=?rest72) (st1:=?st172) ?_
   refine zQ ?_
   refine W.drawB hΓ 11 [[],[0],[0,1],[0,1,2],[0,1,2,3],[0,1,2,3,4],[0,1,2,3],[0,1,2,3,6],[0,1,2,3,4,5,6,7],[0,1,2,3,4,5,6,7,8],[0,1,2,3,4,5,6,7,8,9]] (Es:=?Es74) (rest:=?rest74) (st1:=?st174) ?_
   refine zQ ?_
   refine At.retA (by rw [Tryz.results120]) (he:=rfl)
  |true=>
   subst q7
   refine zR ?_
   refine W.drawB hΓ 7 [[],[0],[],[2],[2,3],[0,1,2,3,4],[0,1,2,3,4,5]] (Es:=?Es78) (rest:=?rest78) (st1:=?st178) ?_
   refine zQ ?_
   refine W.drawB hΓ 11 [[],[0],[0,1],[0,1,2],[0,1,2,3],[0,1,2,3,4],[0,1,2,3],[0,1,2,3,6],[0,1,2,3,4,5,6,7],[0,1,2,3,4,5,6,7,8],[0,1,2,3,4,5,6,7,8,9]] (Es:=?Es80) (rest:=?rest80) (st1:=?st180) ?_
   refine zQ ?_
   refine At.retA (by rw [Tryz.results120]) (he:=rfl)
 ·have hv8:=hv8 q11
  subst hv8
  subst q7
  refine zR ?_
  refine W.drawB hΓ 7 [[],[0],[],[2],[2,3],[0,1,2,3,4],[0,1,2,3,4,5]] (Es:=?Es84) (rest:=?rest84) (st1:=?st184) ?_
  refine zQ ?_
  refine W.drawB hΓ 11 [[],[0],[0,1],[0,1,2],[0,1,2,3],[0,1,2,3,4],[0,1,2,3],[0,1,2,3,6],[0,1,2,3,4,5,6,7],[0,1,2,3,4,5,6,7,8],[0,1,2,3,4,5,6,7,8,9]] (Es:=?Es86) (rest:=?rest86) (st1:=?st186) ?_
  refine zQ ?_
  refine At.retA (by rw [Tryz.results120]) (he:=rfl)
 ·have hv8:=hv8 q11
  subst hv8
  subst q7
  refine zR ?_
  refine W.drawB hΓ 7 [[],[0],[],[2],[2,3],[0,1,2,3,4],[0,1,2,3,4,5]] (Es:=?Es90) (rest:=?rest90) (st1:=?st190) ?_
  refine zQ ?_
  refine W.drawB hΓ 11 [[],[0],[0,1],[0,1,2],[0,1,2,3],[0,1,2,3,4],[0,1,2,3],[0,1,2,3,6],[0,1,2,3,4,5,6,7],[0,1,2,3,4,5,6,7,8],[0,1,2,3,4,5,6,7,8,9]] (Es:=?Es92) (rest:=?rest92) (st1:=?st192) ?_
  refine zQ ?_
  refine At.retA (by rw [Tryz.results120]) (he:=rfl)
theorem verifyS_s:Sound Tryz.prog 66 mVerify:=by
 refine Sound.mdl Tryz.func66 rfl Tryz.ntmps66 ?_
 rintro⟨⟨p,s⟩,⟨⟨ah,at_,ala,ava,ane,ada⟩,al⟩,⟨h,t,la,va,ne,da⟩,n,⟨ch,cr,ci,cs⟩,now⟩ w ⟨hal,hn,hc⟩
 refine⟨by simp,?_⟩
 dsimp only at hal hn hc
 have hΓ:=env_cons (hsO Tryz.func71) trustS_s (env_cons (hsO Tryz.func72) anchorS_s (env_cons (hsO Tryz.func50) headS_s (env_cons (hsO Tryz.func74) l10Time_s (env_cons (hsO Tryz.func120) why_s (env_cons (hsO Tryz.func65) copyAS_s env_nil)))))
 have c1:=mTrust_eq (p,s)
 have c2:=mAnchor_eq ((ah,at_,ala,ava,ane,ada),al) (Nat.le_trans (show al.length≤1048576 from hal) (by omega))
 have c3:=mHead_eq (h,t,la,va,ne,da)
 have c4:=mTime_eq now
 have c5:=mCopyA_eq ((ah,at_,ala,ava,ane,ada),al) hal
 have c6:=mCopyA_eq ((h,t,la,va,ne,da),n) hn
 have hA:verifyA (p,s) ((ah,at_,ala,ava,ane,ada),al) (h,t,la,va,ne,da) n (ch,cr,ci,cs) now=if verifyC (p,s) ((ah,at_,ala,ava,ane,ada),al) (h,t,la,va,ne,da) n (ch,cr,ci,cs) now=0 then((h,t,la,va,ne,da),n)else((ah,at_,ala,ava,ane,ada),al):=rfl
 have hne:¬(trustOk (p,s)∧anchorOk ((ah,at_,ala,ava,ane,ada),al)∧headOk (h,t,la,va,ne,da)∧(0≤now∧now≤1000000))→verifyC (p,s) ((ah,at_,ala,ava,ane,ada),al) (h,t,la,va,ne,da) n (ch,cr,ci,cs) now=1:=fun h=>if_pos h
 have cW:=fun ho=>mWhy_eq (p,s) ((ah,at_,ala,ava,ane,ada),al) (h,t,la,va,ne,da) n (ch,cr,ci,cs) now ⟨⟨hal,hn,hc⟩,ho⟩
 dsimp only [aTr,aAn,aHd,aCm,rAn,rowsAn]at c1 c2 c3 c5 c6 cW
 refine zI ?_
 generalize verifyA (p,s) ((ah,at_,ala,ava,ane,ada),al) (h,t,la,va,ne,da) n (ch,cr,ci,cs) now=an at*
 generalize verifyC (p,s) ((ah,at_,ala,ava,ane,ada),al) (h,t,la,va,ne,da) n (ch,cr,ci,cs) now=code at*
 by_cases h1:trustOk (p,s)
 ·rw [decide_eq_true h1]at c1
  by_cases h2:anchorOk ((ah,at_,ala,ava,ane,ada),al)
  ·rw [decide_eq_true h2]at c2
   by_cases h3:headOk (h,t,la,va,ne,da)
   ·rw [decide_eq_true h3]at c3
    by_cases h4:0≤now∧now≤1000000
    ·rw [decide_eq_true h4]at c4
     have cW:=cW ⟨h1,h2,h3,h4⟩
     clear h1 h2 h3 hne
     by_cases h0:code=0
     ·subst h0
      rw [if_pos rfl]at hA
      subst hA
      refine zR ?_
      refine At.retA (by rw [Tryz.results66]) (he:=rfl)
     ·rw [if_neg h0]at hA
      subst hA
      refine zR ?_
      refine At.retA (by rw [Tryz.results66]) (he:=rfl)
    ·rw [decide_eq_false h4]at c4
     have e:=hne fun h=>h4 h.2.2.2
     subst e
     rw [if_neg (by decide)]at hA
     subst hA
     clear h1 h2 h3 hne cW
     refine zR ?_
     refine At.retA (by rw [Tryz.results66]) (he:=rfl)
   ·rw [decide_eq_false h3]at c3
    have e:=hne fun h=>h3 h.2.2.1
    subst e
    rw [if_neg (by decide)]at hA
    subst hA
    clear h1 h2 h3 hne cW
    refine zR ?_
    refine At.retA (by rw [Tryz.results66]) (he:=rfl)
  ·rw [decide_eq_false h2]at c2
   have e:=hne fun h=>h2 h.2.1
   subst e
   rw [if_neg (by decide)]at hA
   subst hA
   clear h1 h2 hne cW
   refine zR ?_
   refine At.retA (by rw [Tryz.results66]) (he:=rfl)
 ·rw [decide_eq_false h1]at c1
  have e:=hne fun h=>h1 h.1
  subst e
  rw [if_neg (by decide)]at hA
  subst hA
  clear h1 hne cW
  refine zR ?_
  refine At.retA (by rw [Tryz.results66]) (he:=rfl)
end
end Go.Proofs.YtfgkfcfplodaoaaGreatDoor
