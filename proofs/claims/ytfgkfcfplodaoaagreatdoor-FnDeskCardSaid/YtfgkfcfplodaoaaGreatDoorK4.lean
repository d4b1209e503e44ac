/-
  Put together out of 2 texts.
-/
import Derived.Test.YtfgkfcfplodaoaaGreatDoorK3
set_option linter.unusedSimpArgs false
set_option linter.unusedVariables false
set_option maxRecDepth 100000
set_option maxHeartbeats 8000000
namespace Go.Proofs.YtfgkfcfplodaoaaGreatDoor
open Go Go.RowKit
section
def commitOk (l:List TVal)(h:THeader)(c:TCommit):Prop:=valsOk l∧headOk h∧c.1=h.1∧c.2.2.1=headId h∧vhash l=h.2.2.2.1∧enoughB l (cvals c)=true
instance (l:List TVal)(h:THeader)(c:TCommit):Decidable (commitOk l h c):=by unfold commitOk;infer_instance
abbrev TCmA:=List TVal×THeader×TCommit
abbrev okCmA (x:TCmA):Prop:=x.1.length≤8796093022207∧okCm x.2.2
abbrev aCmA (x:TCmA):List Arg:=[aL cVal x.1,aHd x.2.1,aCm x.2.2]
theorem aCmA_inj:∀x y,aCmA x=aCmA y→x=y:=by
 rintro⟨l,⟨a,b,c,d,e,f⟩,⟨g,h,i,j⟩⟩ ⟨l',⟨a',b',c',d',e',f'⟩,⟨g',h',i',j'⟩⟩ h
 simp [aCmA,aHd,aCm,csig_inj]at h
 simp [h]
noncomputable def mCommit:=mdl okCmA aCmA (fun x=>rB (decide (commitOk x.1 x.2.1 x.2.2)))
theorem mCommit_eq (l:List TVal)(h:THeader)(c:TCommit)(hl:l.length≤8796093022207)(hc:okCm c):mCommit [aL cVal l,aHd h,aCm c]=some (rB (decide (commitOk l h c))):=mdl_eq aCmA_inj (l,h,c) ⟨hl,hc⟩
theorem cases6B (a b c d e:Prop)[Decidable a][Decidable b][Decidable c][Decidable d][Decidable e](f:Bool):(decide a=false)∨(decide a=true∧decide b=false)∨(decide a=true∧decide b=true∧decide c=false)∨(decide a=true∧decide b=true∧decide c=true∧decide d=false)∨(decide a=true∧decide b=true∧decide c=true∧decide d=true∧decide e=false)∨(decide a=true∧decide b=true∧decide c=true∧decide d=true∧decide e=true):=by
 cases decide a<;>cases decide b<;>cases decide c<;>cases decide d<;>cases decide e<;>simp
def asEvBlock0:List (List Nat):=[[],[0],[0,1],[0,1,2],[0,1,2,3],[0,1,2,3,4],[0,1,2,3,4,5],[0,1,2,3,4,5,6],[0,1,2,3,4,5,6,7],[0,1,2,3,4,5,6],[0,1,2,3,4,5,6,9],[0,1,2,3,4,5,6,7,8,9,10],[0,1,2,3,4,5,6,7,8,9,10,11],[0,1,2,3,4,5,6,7,8,9,10,11,12],[0,1,2,3,4,5,6,7,8,9,10,11,12,13],[0,1,2,3,4,5,6,7,8,9,10,11,12,13,14],[0,1,2,3,4,5,6,7,8,9,10,11,12,13],[0,1,2,3,4,5,6,7,8,9,10,11,12,13,16],[0,1,2,3,4,5,6,7,8,9,10,11,12,13,14,15,16,17],[0,1,2,3,4,5,6,7,8,9,10,11,12,13,14,15,16,17,18],[0,1,2,3,4,5,6,7,8,9,10,11,12,13,14,15,16,17,18,19],[0,1,2,3,4,5,6,7,8,9,10,11,12,13,14,15,16,17,18,19,20],[0,1,2,3,4,5,6,7,8,9,10,11,12,13,14,15,16,17,18,19,20,21],[0,1,2,3,4,5,6,7,8,9,10,11,12,13,14,15,16,17,18,19,20],[0,1,2,3,4,5,6,7,8,9,10,11,12,13,14,15,16,17,18,19,20,23],[0,1,2,3,4,5,6,7,8,9,10,11,12,13,14,15,16,17,18,19,20,21,22,23,24],[0,1,2,3,4,5,6,7,8,9,10,11,12,13,14,15,16,17,18,19,20,21,22,23,24,25],[0,1,2,3,4,5,6,7,8,9,10,11,12,13,14,15,16,17,18,19,20,21,22,23,24,25,26],[0,1,2,3,4,5,6,7,8,9,10,11,12,13,14,15,16,17,18,19,20,21,22,23,24,25,26,27],[0,1,2,3,4,5,6,7,8,9,10,11,12,13,14,15,16,17,18,19,20,21,22,23,24,25,26,27],[0,1,2,3,4,5,6,7,8,9,10,11,12,13,14,15,16,17,18,19,20,21,22,23,24,25,26,27,29],[0,1,2,3,4,5,6,7,8,9,10,11,12,13,14,15,16,17,18,19,20,21,22,23,24,25,26,27,28,29,30],[0,1,2,3,4,5,6,7,8,9,10,11,12,13,14,15,16,17,18,19,20,21,22,23,24,25,26,27,28,29,30,31],[0,1,2,3,4,5,6,7,8,9,10,11,12,13,14,15,16,17,18,19,20,21,22,23,24,25,26,27,28,29,30,31,32]]
theorem commitS_s:Sound Tryz.prog 129 mCommit:=by
 refine Sound.mdl Tryz.func129 rfl Tryz.ntmps129 ?_
 rintro⟨l,⟨h,t,la,va,ne,da⟩,⟨ch,cr,ci,cs⟩⟩ w ⟨hl,hc⟩
 refine⟨by simp,?_⟩
 replace hl:l.length≤8796093022207:=hl
 replace hc:cs.length≤8796093022207:=hc
 have hΓ:=env_cons (hsO Tryz.func75) valsS_s (env_cons (hsO Tryz.func50) headS_s (env_cons (hsO Tryz.func13) headIdS_s (env_cons (hsO Tryz.func43) vhashS_s (env_cons (hsO Tryz.func25) cvalsS_s (env_cons (hsO Tryz.func176) enoughS_s env_nil)))))
 have c1:=mVals_eq l hl
 have c2:=mHead_eq (h,t,la,va,ne,da)
 have c3:=mHeadId_eq (h,t,la,va,ne,da)
 have c4:=mVHash_eq l hl
 have c5:=mCVals_eq (ch,cr,ci,cs) hc
 have hcl:=cvals_len (ch,cr,ci,cs)
 have c6:=mEnough_eq l (cvals (ch,cr,ci,cs)) hl (by omega)
 have key:decide (commitOk l (h,t,la,va,ne,da) (ch,cr,ci,cs))=(decide (valsOk l)&&(decide (headOk (h,t,la,va,ne,da))&&(decide (ch=h)&&(decide (ci=headId (h,t,la,va,ne,da))&&(decide (vhash l=va)&&enoughB l (cvals (ch,cr,ci,cs))))))):=by
  rw [Bool.eq_iff_iff]
  simp only [Bool.and_eq_true,decide_eq_true_eq]
  exact Iff.rfl
 dsimp only [aHd,aCm]at c2 c3 c5
 generalize headId (h,t,la,va,ne,da)=x at*
 generalize vhash l=y at*
 generalize enoughB l (cvals (ch,cr,ci,cs))=en at*
 generalize cvals (ch,cr,ci,cs)=cv at*
 refine zI ?_
 rcases cases6B (valsOk l) (headOk (h,t,la,va,ne,da)) (ch=h) (ci=x) (y=va) en with q|q|q|q|q|q
 ·rw [q]at c1 key
  clear q
  refine zR ?_
  refine W.drawB hΓ 34 asEvBlock0 (Es:=?Es4) (rest:=?rest4) (st1:=?st14) ?_
  refine zQ ?_
  refine At.retA (by rw [Tryz.results129]) (he:=?_)
  rw [key];rfl
 ·obtain⟨q1,q2⟩:=q
  rw [q1]at c1 key
  rw [q2]at c2 key
  clear q1 q2
  refine zR ?_
  refine W.drawB hΓ 34 asEvBlock0 (Es:=?Es8) (rest:=?rest8) (st1:=?st18) ?_
  refine zQ ?_
  refine At.retA (by rw [Tryz.results129]) (he:=?_)
  rw [key];rfl
 ·obtain⟨q1,q2,q3⟩:=q
  rw [q1]at c1 key
  rw [q2]at c2 key
  rw [q3]at key
  clear q1 q2
  refine zR ?_
  refine W.drawB hΓ 34 asEvBlock0 (Es:=?Es12) (rest:=?rest12) (st1:=?st112) ?_
  refine zQ ?_
  refine At.retA (by rw [Tryz.results129]) (he:=?_)
  rw [key];rfl
 ·obtain⟨q1,q2,q3,q4⟩:=q
  rw [q1]at c1 key
  rw [q2]at c2 key
  rw [q3,q4]at key
  clear q1 q2
  refine zR ?_
  refine W.drawB hΓ 34 asEvBlock0 (Es:=?Es16) (rest:=?rest16) (st1:=?st116) ?_
  refine zQ ?_
  refine At.retA (by rw [Tryz.results129]) (he:=?_)
  rw [key];rfl
 ·obtain⟨q1,q2,q3,q4,q5⟩:=q
  rw [q1]at c1 key
  rw [q2]at c2 key
  rw [q3,q4,q5]at key
  clear q1 q2
  refine zR ?_
  refine W.drawB hΓ 34 asEvBlock0 (Es:=?Es20) (rest:=?rest20) (st1:=?st120) ?_
  refine zQ ?_
  refine At.retA (by rw [Tryz.results129]) (he:=?_)
  rw [key];rfl
 ·obtain⟨q1,q2,q3,q4,q5⟩:=q
  rw [q1]at c1 key
  rw [q2]at c2 key
  rw [q3,q4,q5]at key
  clear q1 q2
  refine zR ?_
  refine W.drawB hΓ 34 asEvBlock0 (Es:=?Es24) (rest:=?rest24) (st1:=?st124) ?_
  refine zQ ?_
  refine At.retA (by rw [Tryz.results129]) (he:=?_)
  rw [key];rfl
theorem commitI_s:Sound Tryz.prog 167 mCommit:=by
 refine Sound.mdl Tryz.func167 rfl Tryz.ntmps167 ?_
 rintro⟨l,⟨h,t,la,va,ne,da⟩,⟨ch,cr,ci,cs⟩⟩ w ⟨hl,hc⟩
 refine⟨by simp,?_⟩
 replace hl:l.length≤8796093022207:=hl
 replace hc:cs.length≤8796093022207:=hc
 have hΓ:=env_cons (hsO Tryz.func168) valsI_s (env_cons (hsO Tryz.func165) headI_s (env_cons (hsO Tryz.func144) headIdI_s (env_cons (hsO Tryz.func166) vhashI_s (env_cons (hsO Tryz.func128) cvalsI_s (env_cons (hsO Tryz.func215) enoughI_s env_nil)))))
 have c1:=mVals_eq l hl
 have c2:=mHead_eq (h,t,la,va,ne,da)
 have c3:=mHeadId_eq (h,t,la,va,ne,da)
 have c4:=mVHash_eq l hl
 have hcl:=cvals_len (ch,cr,ci,cs)
 have c6:=mEnough_eq l (cvals (ch,cr,ci,cs)) hl (by omega)
 have key:decide (commitOk l (h,t,la,va,ne,da) (ch,cr,ci,cs))=(decide (valsOk l)&&(decide (headOk (h,t,la,va,ne,da))&&(decide (ch=h)&&(decide (ci=headId (h,t,la,va,ne,da))&&(decide (vhash l=va)&&enoughB l (cvals (ch,cr,ci,cs))))))):=by
  rw [Bool.eq_iff_iff]
  simp only [Bool.and_eq_true,decide_eq_true_eq]
  exact Iff.rfl
 dsimp only [aHd]at c2 c3
 generalize headId (h,t,la,va,ne,da)=x at*
 generalize vhash l=y at*
 generalize hen:enoughB l (cvals (ch,cr,ci,cs))=en at*
 refine zI ?_
 rcases cases6B (valsOk l) (headOk (h,t,la,va,ne,da)) (ch=h) (ci=x) (y=va) en with q|q|q|q|q|q
 ·rw [q]at c1 key
  clear q
  refine zR ?_
  refine W.drawB hΓ 34 asEvBlock0 (Es:=?Es30) (rest:=?rest30) (st1:=?st130) ?_
  refine zQ ?_
  refine At.retA (by rw [Tryz.results167]) (he:=?_)
  rw [key];rfl
 ·obtain⟨q1,q2⟩:=q
  rw [q1]at c1 key
  rw [q2]at c2 key
  clear q1 q2
  refine zR ?_
  refine W.drawB hΓ 34 asEvBlock0 (Es:=?Es34) (rest:=?rest34) (st1:=?st134) ?_
  refine zQ ?_
  refine At.retA (by rw [Tryz.results167]) (he:=?_)
  rw [key];rfl
 ·obtain⟨q1,q2,q3⟩:=q
  rw [q1]at c1 key
  rw [q2]at c2 key
  rw [q3]at key
  clear q1 q2
  refine zR ?_
  refine W.drawB hΓ 34 asEvBlock0 (Es:=?Es38) (rest:=?rest38) (st1:=?st138) ?_
  refine zQ ?_
  refine At.retA (by rw [Tryz.results167]) (he:=?_)
  rw [key];rfl
 ·obtain⟨q1,q2,q3,q4⟩:=q
  rw [q1]at c1 key
  rw [q2]at c2 key
  rw [q3,q4]at key
  clear q1 q2
  refine zR ?_
  refine W.drawB hΓ 34 asEvBlock0 (Es:=?Es42) (rest:=?rest42) (st1:=?st142) ?_
  refine zQ ?_
  refine At.retA (by rw [Tryz.results167]) (he:=?_)
  rw [key];rfl
 ·obtain⟨q1,q2,q3,q4,q5⟩:=q
  rw [q1]at c1 key
  rw [q2]at c2 key
  rw [q3,q4,q5]at key
  clear q1 q2
  refine zR ?_
  refine W.drawB hΓ 34 asEvBlock0 (Es:=?Es46) (rest:=?rest46) (st1:=?st146) ?_
  refine zQ ?_
  refine At.retA (by rw [Tryz.results167]) (he:=?_)
  rw [key];rfl
 ·obtain⟨q1,q2,q3,q4,q5⟩:=q
  rw [q1]at c1 key
  rw [q2]at c2 key
  rw [q3,q4,q5]at key
  clear q1 q2
  by_cases h12:cs.length≤12
  ·have c5:=mCValsI_eq (ch,cr,ci,cs) hc h12
   dsimp only [aCm]at c5
   generalize cvals (ch,cr,ci,cs)=cv at*
   clear hen
   refine zR ?_
   refine W.drawB hΓ 34 asEvBlock0 (Es:=?Es50) (rest:=?rest50) (st1:=?st150) ?_
   refine zQ ?_
   refine At.retA (by rw [Tryz.results167]) (he:=?_)
   rw [key];rfl
  ·have c5:=mCValsI_no (ch,cr,ci,cs) hc h12
   have hcv:cvals (ch,cr,ci,cs)=[]:=if_neg h12
   have hnil:rowsF cInt []=[]:=rfl
   dsimp only [aCm]at c5
   rw [hcv]at c6
   dsimp only [aL]at c6
   rw [hnil]at c6
   clear hen hcl hcv hnil
   refine zR ?_
   refine W.drawB hΓ 34 asEvBlock0 (Es:=?Es54) (rest:=?rest54) (st1:=?st154) ?_
   refine zQ ?_
   refine At.retA (by rw [Tryz.results167]) (he:=?_)
   rw [key];rfl
abbrev TBlock:=THeader×List TVal×List TVal×TCommit
abbrev aBk (b:TBlock):Arg:=.val true [.sc (.int .i64 b.1.1),.sc (.int .i64 b.1.2.1),.sc (.string b.1.2.2.1),.sc (.string b.1.2.2.2.1),.sc (.string b.1.2.2.2.2.1),.sc (.string b.1.2.2.2.2.2),.sl (rowsF cVal b.2.1),.sl (rowsF cVal b.2.2.1),.sc (.int .i64 b.2.2.2.1),.sc (.int .i64 b.2.2.2.2.1),.sc (.string b.2.2.2.2.2.1),.sl (rowsF cCSig b.2.2.2.2.2.2)]
abbrev okBk (b:TBlock):Prop:=b.2.1.length≤8796093022207∧b.2.2.1.length≤8796093022207∧okCm b.2.2.2
theorem aBk_inj:∀x y:TBlock,[aBk x]=[aBk y]→x=y:=by
 rintro⟨⟨a,b,c,d,e,f⟩,l,n,⟨g,h,i,j⟩⟩ ⟨⟨a',b',c',d',e',f'⟩,l',n',⟨g',h',i',j'⟩⟩ h
 simp [aBk,csig_inj]at h
 simp [h]
def blockOk (b:TBlock):Prop:=valsOk b.2.2.1∧b.1.2.2.2.2.1=vhash b.2.2.1∧commitOk b.2.1 b.1 b.2.2.2
instance (b:TBlock):Decidable (blockOk b):=by unfold blockOk;infer_instance
noncomputable def mBlock:=mdl okBk (fun b=>[aBk b]) (fun b=>rB (decide (blockOk b)))
theorem mBlock_eq (b:TBlock)(h:okBk b):mBlock [aBk b]=some (rB (decide (blockOk b))):=mdl_eq aBk_inj b h
def asEvBlock2:List (List Nat):=[[],[0],[0,1],[0,1,2],[0,1,2,3],[0,1,2,3,4],[0,1,2,3,4,5],[0,1,2,3],[0,1,2,3,7],[0,1,2,3,7,8],[0,1,2,3,4,5,6,7,8,9],[0,1,2,3,4,5,6,7,8,9,10],[0,1,2,3,4,5,6,7,8,9,10,11],[0,1,2,3,4,5,6,7,8,9,10,11,12],[0,1,2,3,4,5,6,7,8,9,10,11,12,13],[0,1,2,3,4,5,6,7,8,9,10,11,12],[0,1,2,3,4,5,6,7,8,9,10,11,12,15],[0,1,2,3,4,5,6,7,8,9,10,11,12],[0,1,2,3,4,5,6,7,8,9,10,11,12,17],[0,1,2,3,4,5,6,7,8,9,10,11,12,13,14,15,16,17,18],[0,1,2,3,4,5,6,7,8,9,10,11,12,13,14,15,16,17,18,19],[0,1,2,3,4,5,6,7,8,9,10,11,12,13,14,15,16,17,18,19,20]]
theorem blkOkS_s:Sound Tryz.prog 73 mBlock:=by
 refine Sound.mdl Tryz.func73 rfl Tryz.ntmps73 ?_
 rintro⟨⟨h,t,la,va,ne,da⟩,l,n,⟨ch,cr,ci,cs⟩⟩ w ⟨hl,hn,hc⟩
 refine⟨by simp,?_⟩
 dsimp only at hl hn hc
 have hΓ:=env_cons (hsO Tryz.func75) valsS_s (env_cons (hsO Tryz.func43) vhashS_s (env_cons (hsO Tryz.func129) commitS_s env_nil))
 have c1:=mVals_eq n hn
 have c2:=mVHash_eq n hn
 have c3:=mCommit_eq l (h,t,la,va,ne,da) (ch,cr,ci,cs) hl hc
 have key:decide (blockOk ((h,t,la,va,ne,da),l,n,(ch,cr,ci,cs)))=(decide (valsOk n)&&(decide (ne=vhash n)&&decide (commitOk l (h,t,la,va,ne,da) (ch,cr,ci,cs)))):=by
  rw [Bool.eq_iff_iff]
  simp only [Bool.and_eq_true,decide_eq_true_eq]
  exact Iff.rfl
 dsimp only [aHd,aCm]at c3
 generalize vhash n=y at*
 generalize decide (commitOk l (h,t,la,va,ne,da) (ch,cr,ci,cs))=co at*
 refine zI ?_
 cases q1:decide (valsOk n)with
 |false=>
  rw [q1]at c1 key
  clear q1
  refine zR ?_
  refine W.drawB hΓ 22 asEvBlock2 (Es:=?Es60) (rest:=?rest60) (st1:=?st160) ?_
  refine zQ ?_
  refine At.retA (by rw [Tryz.results73]) (he:=?_)
  rw [key];rfl
 |true=>
  rw [q1]at c1 key
  clear q1
  cases q2:decide (ne=y)with
  |false=>
   rw [q2]at key
   refine zR ?_
   refine W.drawB hΓ 22 asEvBlock2 (Es:=?Es64) (rest:=?rest64) (st1:=?st164) ?_
   refine zQ ?_
   refine At.retA (by rw [Tryz.results73]) (he:=?_)
   rw [key];rfl
  |true=>
   rw [q2]at key
   refine zR ?_
   refine W.drawB hΓ 22 asEvBlock2 (Es:=?Es68) (rest:=?rest68) (st1:=?st168) ?_
   refine zQ ?_
   refine At.retA (by rw [Tryz.results73]) (he:=?_)
   rw [key];rfl
def asEvBlock1:List (List Nat):=[[],[0],[0,1],[0,1,2],[0,1,2,3],[0,1,2,3,4],[0,1,2,3,4,5],[0,1,2,3,4,5,6],[0,1,2,3,4,5,6,7],[0,1,2,3,4,5,6,7,8],[0,1,2,3,4,5,6,7,8,9],[0,1,2,3,4,5,6,7,8,9,10],[0,1,2,3,4,5,6,7,8,9,10,11],[0,1,2,3,4,5,6,7,8,9,10,11,12],[0,1,2,3,4,5,6,7,8,9,10,11,12,13],[0,1,2,3,4,5,6,7,8,9,10,11,12,13,14],[0,1,2,3,4,5,6,7,8,9,10,11,12,13,14,15],[0,1,2,3,4,5,6,7,8,9,10,11,12,13],[0,1,2,3,4,5,6,7,8,9,10,11,12,13,17],[0,1,2,3,4,5,6,7,8,9,10,11,12,13,17,18],[0,1,2,3,4,5,6,7,8,9,10,11,12,13,14,15,16,17,18,19],[0,1,2,3,4,5,6,7,8,9,10,11,12,13,14,15,16,17,18,19,20],[0,1,2,3,4,5,6,7,8,9,10,11,12,13,14,15,16,17,18,19,20,21],[0,1,2,3,4,5,6,7,8,9,10,11,12,13,14,15,16,17,18,19,20,21,22],[0,1,2,3,4,5,6,7,8,9,10,11,12,13,14,15,16,17,18,19,20,21,22,23],[0,1,2,3,4,5,6,7,8,9,10,11,12,13,14,15,16,17,18,19,20,21,22,23,24],[0,1,2,3,4,5,6,7,8,9,10,11,12,13,14,15,16,17,18,19,20,21,22],[0,1,2,3,4,5,6,7,8,9,10,11,12,13,14,15,16,17,18,19,20,21,22,26],[0,1,2,3,4,5,6,7,8,9,10,11,12,13,14,15,16,17,18,19,20,21,22,26,27],[0,1,2,3,4,5,6,7,8,9,10,11,12,13,14,15,16,17,18,19,20,21,22,23,24,25,26,27,28],[0,1,2,3,4,5,6,7,8,9,10,11,12,13,14,15,16,17,18,19,20,21,22,23,24,25,26,27,28,29],[0,1,2,3,4,5,6,7,8,9,10,11,12,13,14,15,16,17,18,19,20,21,22,23,24,25,26,27,28,29,30],[0,1,2,3,4,5,6,7,8,9,10,11,12,13,14,15,16,17,18,19,20,21,22,23,24,25,26,27,28,29,30,31],[0,1,2,3,4,5,6,7,8,9,10,11,12,13,14,15,16,17,18,19,20,21,22,23,24,25,26,27,28,29,30,31,32],[0,1,2,3,4,5,6,7,8,9,10,11,12,13,14,15,16,17,18,19,20,21,22,23,24,25,26,27,28,29,30,31],[0,1,2,3,4,5,6,7,8,9,10,11,12,13,14,15,16,17,18,19,20,21,22,23,24,25,26,27,28,29,30,31,34],[0,1,2,3,4,5,6,7,8,9,10,11,12,13,14,15,16,17,18,19,20,21,22,23,24,25,26,27,28,29,30,31],[0,1,2,3,4,5,6,7,8,9,10,11,12,13,14,15,16,17,18,19,20,21,22,23,24,25,26,27,28,29,30,31,36],[0,1,2,3,4,5,6,7,8,9,10,11,12,13,14,15,16,17,18,19,20,21,22,23,24,25,26,27,28,29,30,31,32,33,34,35,36,37],[0,1,2,3,4,5,6,7,8,9,10,11,12,13,14,15,16,17,18,19,20,21,22,23,24,25,26,27,28,29,30,31,32,33,34,35,36,37,38],[0,1,2,3,4,5,6,7,8,9,10,11,12,13,14,15,16,17,18,19,20,21,22,23,24,25,26,27,28,29,30,31,32,33,34,35,36,37,38,39]]
theorem blkOkI_s:Sound Tryz.prog 124 mBlock:=by
 refine Sound.mdl Tryz.func124 rfl Tryz.ntmps124 ?_
 rintro⟨⟨h,t,la,va,ne,da⟩,l,n,⟨ch,cr,ci,cs⟩⟩ w ⟨hl,hn,hc⟩
 refine⟨by simp,?_⟩
 dsimp only at hl hn hc
 have hΓ:=env_cons (hsO Tryz.func168) valsI_s (env_cons (hsO Tryz.func165) headI_s (env_cons (hsO Tryz.func166) vhashI_s (env_cons (hsO Tryz.func167) commitI_s env_nil)))
 have c0:=mVals_eq l hl
 have c1:=mVals_eq n hn
 have c2:=mVHash_eq l hl
 have c4:=mVHash_eq n hn
 have c5:=mHead_eq (h,t,la,va,ne,da)
 have c3:=mCommit_eq l (h,t,la,va,ne,da) (ch,cr,ci,cs) hl hc
 have key:decide (blockOk ((h,t,la,va,ne,da),l,n,(ch,cr,ci,cs)))=(decide (valsOk l)&&(decide (valsOk n)&&(decide (headOk (h,t,la,va,ne,da))&&(decide (va=vhash l)&&(decide (ne=vhash n)&&decide (commitOk l (h,t,la,va,ne,da) (ch,cr,ci,cs))))))):=by
  rw [Bool.eq_iff_iff]
  simp only [Bool.and_eq_true,decide_eq_true_eq]
  constructor
  ·rintro⟨h1,h2,h3⟩;exact⟨h3.1,h1,h3.2.1,h3.2.2.2.2.1.symm,h2,h3⟩
  ·rintro⟨_,h1,_,_,h2,h3⟩;exact⟨h1,h2,h3⟩
 dsimp only [aHd,aCm]at c3 c5
 generalize vhash l=x at*
 generalize vhash n=y at*
 generalize decide (commitOk l (h,t,la,va,ne,da) (ch,cr,ci,cs))=co at*
 refine zI ?_
 rcases cases6B (valsOk l) (valsOk n) (headOk (h,t,la,va,ne,da)) (va=x) (ne=y) co with q|q|q|q|q|q
 ·rw [q]at c0 key
  clear q
  refine zR ?_
  refine W.drawB hΓ 41 asEvBlock1 (Es:=?Es74) (rest:=?rest74) (st1:=?st174) ?_
  refine zQ ?_
  refine At.retA (by rw [Tryz.results124]) (he:=?_)
  rw [key];rfl
 ·obtain⟨q1,q2⟩:=q
  rw [q1]at c0 key
  rw [q2]at c1 key
  clear q1 q2
  refine zR ?_
  refine W.drawB hΓ 41 asEvBlock1 (Es:=?Es78) (rest:=?rest78) (st1:=?st178) ?_
  refine zQ ?_
  refine At.retA (by rw [Tryz.results124]) (he:=?_)
  rw [key];rfl
 ·obtain⟨q1,q2,q3⟩:=q
  rw [q1]at c0 key
  rw [q2]at c1 key
  rw [q3]at c5 key
  clear q1 q2 q3
  refine zR ?_
  refine W.drawB hΓ 41 asEvBlock1 (Es:=?Es82) (rest:=?rest82) (st1:=?st182) ?_
  refine zQ ?_
  refine At.retA (by rw [Tryz.results124]) (he:=?_)
  rw [key];rfl
 ·obtain⟨q1,q2,q3,q4⟩:=q
  rw [q1]at c0 key
  rw [q2]at c1 key
  rw [q3]at c5 key
  rw [q4]at key
  clear q1 q2 q3
  refine zR ?_
  refine W.drawB hΓ 41 asEvBlock1 (Es:=?Es86) (rest:=?rest86) (st1:=?st186) ?_
  refine zQ ?_
  refine At.retA (by rw [Tryz.results124]) (he:=?_)
  rw [key];rfl
 ·obtain⟨q1,q2,q3,q4,q5⟩:=q
  rw [q1]at c0 key
  rw [q2]at c1 key
  rw [q3]at c5 key
  rw [q4,q5]at key
  clear q1 q2 q3
  refine zR ?_
  refine W.drawB hΓ 41 asEvBlock1 (Es:=?Es90) (rest:=?rest90) (st1:=?st190) ?_
  refine zQ ?_
  refine At.retA (by rw [Tryz.results124]) (he:=?_)
  rw [key];rfl
 ·obtain⟨q1,q2,q3,q4,q5⟩:=q
  rw [q1]at c0 key
  rw [q2]at c1 key
  rw [q3]at c5 key
  rw [q4,q5]at key
  clear q1 q2 q3
  refine zR ?_
  refine W.drawB hΓ 41 asEvBlock1 (Es:=?Es94) (rest:=?rest94) (st1:=?st194) ?_
  refine zQ ?_
  refine At.retA (by rw [Tryz.results124]) (he:=?_)
  rw [key];rfl
end
section
abbrev rowsAn (a:TAnchor):List RL:=[.ro (.sc (.int .i64 a.1.1)),.ro (.sc (.int .i64 a.1.2.1)),.ro (.sc (.string a.1.2.2.1)),.ro (.sc (.string a.1.2.2.2.1)),.ro (.sc (.string a.1.2.2.2.2.1)),.ro (.sc (.string a.1.2.2.2.2.2)),.own .ft 76 2 (rowsF cVal a.2)]
abbrev rAn (a:TAnchor):Res:=.comp true (rowsAn a)
abbrev okAn (a:TAnchor):Prop:=a.2.length≤1048576
noncomputable def mCopyA:=mdl okAn (fun a=>[aAn a]) rAn
theorem mCopyA_eq (a:TAnchor)(h:okAn a):mCopyA [aAn a]=some (rAn a):=mdl_eq aAn_inj a h
noncomputable def mCopyV:=mdl (fun l:List TVal=>l.length≤1048576) (fun l=>[aL cVal l]) (fun l=>rL 76 2 cVal l)
theorem mCopyV_eq (l:List TVal)(h:l.length≤1048576):mCopyV [aL cVal l]=some (rL 76 2 cVal l):=mdl_eq (by intro a b h;simpa using h) l h
theorem copyV_s:Sound Tryz.prog 70 mCopyV:=by
 refine Sound.mdl Tryz.func70 rfl Tryz.ntmps70 ?_
 rintro l w hl
 refine⟨by simp,?_⟩
 replace hl:l.length≤1048576:=hl
 have hΓ:=eN
 have hlen:=rowsF_len cVal l
 have hw:wid 2 (rowsF cVal l):=rowsF_wid (f:=cVal) (s:=2) (fun _=>rfl) l
 refine zJ ?_
 refine At.retA (by rw [Tryz.results70]) (he:=rfl)
theorem copyAS_s:Sound Tryz.prog 65 mCopyA:=by
 refine Sound.mdl Tryz.func65 rfl Tryz.ntmps65 ?_
 rintro⟨⟨h,t,la,va,ne,da⟩,l⟩ w hl
 refine⟨by simp,?_⟩
 replace hl:l.length≤1048576:=hl
 have hΓ:=eN
 have hlen:=rowsF_len cVal l
 have hw:wid 2 (rowsF cVal l):=rowsF_wid (f:=cVal) (s:=2) (fun _=>rfl) l
 refine zJ ?_
 refine At.retA (by rw [Tryz.results65]) (he:=rfl)
theorem copyAI_s:Sound Tryz.prog 60 mCopyA:=by
 refine Sound.mdl Tryz.func60 rfl Tryz.ntmps60 ?_
 rintro⟨⟨h,t,la,va,ne,da⟩,l⟩ w hl
 refine⟨by simp,?_⟩
 replace hl:l.length≤1048576:=hl
 have hΓ:=env_cons (hsO Tryz.func70) copyV_s env_nil
 have c1:=mCopyV_eq l hl
 refine zJ ?_
 refine W.drawB hΓ 6 [[],[0],[],[2],[2,3],[0,1,2,3,4],[0,1,2,3,4,5]] (Es:=?Es12) (rest:=?rest12) (st1:=?st112) ?_
 refine zQ ?_
 refine At.retA (by rw [Tryz.results60]) (he:=rfl)
abbrev rSk (a:TAnchor)(k:Int):Res:=.tup [(true,rowsAn a),rSc (.int .i64 k)]
theorem anchor_num {a:TAnchor}(h:decide (anchorOk a)=true):(1≤a.1.1∧a.1.1≤1000000)∧(0≤a.1.2.1∧a.1.2.1≤1000000):=by
 have:=of_decide_eq_true h
 exact⟨this.1.1,this.1.2.1⟩
theorem trust_num {t:TTrust}(h:decide (trustOk t)=true):(1≤t.1∧t.1≤100000)∧(0≤t.2∧t.2≤1000):=of_decide_eq_true h
theorem exp_of {t:TTrust}{n:Int}(h:decide (trustOk t)=true)(hn:0≤n∧n≤1000000):expT t n=n+t.1:=if_pos ⟨of_decide_eq_true h,hn⟩
end
end Go.Proofs.YtfgkfcfplodaoaaGreatDoor
