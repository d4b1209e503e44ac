/-
  Put together out of 4 texts.
-/
import Derived.Test.YtfgkfcfplodaoaaGreatDoorK3
import Derived.Test.YtfgkfcfplodaoaaGreatDoorG17
import Derived.Test.YtfgkfcfplodaoaaGreatDoorK7
set_option linter.unusedSimpArgs false
set_option linter.unusedVariables false
set_option maxRecDepth 100000
set_option maxHeartbeats 8000000
namespace Go.Proofs.YtfgkfcfplodaoaaGreatDoor
open Go Go.RowKit
section
abbrev TStore:=List THeader×Int
@[simp] theorem rowsF_Header {a b:List THeader}:rowsF cHeader a=rowsF cHeader b↔a=b:=rowsF_iff fun x y h=>by simpa [cHeader,Prod.ext_iff]using h
abbrev aSto (t:TStore):Arg:=.val true [.sl (rowsF cHeader t.1),.sc (.int .i64 t.2)]
abbrev rSto (t:TStore):List RL:=[.own .ft 30 6 (rowsF cHeader t.1),.ro (.sc (.int .i64 t.2))]
abbrev bxSto (t:TStore):Blk:=.box [.sl (rowsF cHeader t.1),.sc (.int .i64 t.2)]
theorem aSto_inj {a b:TStore}(h:aSto a=aSto b):a=b:=by
 obtain⟨a1,a2⟩:=a
 obtain⟨b1,b2⟩:=b
 simpa using h
abbrev lHd (x:THeader):List Leaf:=[.sc (.int .i64 x.1),.sc (.int .i64 x.2.1),.sc (.string x.2.2.1),.sc (.string x.2.2.2.1),.sc (.string x.2.2.2.2.1),.sc (.string x.2.2.2.2.2)]
theorem cHeader_row (l:List THeader)(k:Nat)(h:k<l.length):(rowsF cHeader l)[k]?=some (lHd l[k]):=rowsF_get cHeader l k h
theorem cHeader_app (l:List THeader)(x:THeader):rowsF cHeader l++[lHd x]=rowsF cHeader (l++[x]):=by rw [←rowsF_app];rfl
def zHd:THeader:=(0,0,ByteArray.empty,ByteArray.empty,ByteArray.empty,ByteArray.empty)
def hdD (l:List THeader)(j:Nat):THeader:=l.getD j zHd
theorem hdD_get {l:List THeader}{j:Nat}(h:j<l.length):hdD l j=l[j]:=by
 unfold hdD
 rw [List.getD_eq_getElem?_getD,gsE h]
 rfl
theorem hdD_row {l:List THeader}{k:Nat}(h:k<l.length):(rowsF cHeader l)[k]?=some (lHd (hdD l k)):=by
 rw [cHeader_row l k h,hdD_get h]
def linkOk (y x:THeader):Prop:=x.1=y.1+1∧x.2.2.1=headId y∧y.2.1<x.2.1∧x.2.2.2.1=y.2.2.2.2.1
def hdAt (l:List THeader)(j:Nat):Prop:=headOk (hdD l j)∧(0<j→linkOk (hdD l (j-1)) (hdD l j))
def storeOk (t:TStore):Prop:=(t.1.length≤20∧0≤t.2∧t.2≤(t.1.length:Int))∧∀j,j<t.1.length→hdAt t.1 j
open Classical in
noncomputable instance (t:TStore):Decidable (storeOk t):=Classical.propDecidable _
theorem storeOk_len {t:TStore}(h:storeOk t):t.1.length≤20:=h.1.1
theorem hd_next {l:List THeader}{k:Nat}(hI:∀j,j<k→hdAt l j)(h:hdAt l k):∀j,j<k+1→hdAt l j:=fun j hj=>by
 rcases Nat.lt_or_ge j k with h1|h1
 ·exact hI j h1
 ·have:j=k:=by omega
  subst this
  exact h
theorem store_bad {l:List THeader}{n:Int}{k:Nat}(hk:k<l.length)(h:¬hdAt l k):decide (storeOk (l,n))=false:=dcF fun q=>h (q.2 k hk)
abbrev okSto (t:TStore):Prop:=t.1.length≤1048576
noncomputable def mCopySt:=mdl okSto (fun t=>[aSto t]) (fun t=>.comp true (rSto t))
theorem mCopySt_eq (t:TStore)(h:okSto t):mCopySt [aSto t]=some (.comp true (rSto t)):=mdl_eq (fun a b h=>aSto_inj (by simpa using h)) t h
theorem copySt_s:Sound Tryz.prog 236 mCopySt:=by
 refine Sound.mdl Tryz.func236 rfl Tryz.ntmps236 ?_
 rintro⟨l,n⟩ w hl
 refine⟨by simp,?_⟩
 replace hl:l.length≤1048576:=hl
 have hΓ:=eN
 have hw:wid 6 (rowsF cHeader l):=rowsF_wid (f:=cHeader) (fun _=>rfl) l
 have hlen:=rowsF_len cHeader l
 have hnil:([]:List (List Leaf))++rowsF cHeader l=rowsF cHeader l:=rfl
 refine zJ ?_
 refine W.subA [.slot 2 (one (.ptr 2 0)),.blk 2 (.box [.nil,.sc (.int .i64 0)]),.slot 1 (one (.ptr 1 0)),.blk 1 (bxSto (l,n))] (h:=?_)
 refine AllGo.start hΓ (h:=?_)
 refine AllGo.add 0 0 (h:=?_)
 refine AllGo.add 1 1 (h:=?_)
 refine AllGo.add 3 2 (h:=?_)
 refine AllGo.add 0 3 (h:=?_)
 refine AllGo.add 1 3 (h:=?_)
 refine AllGo.add 3 3 (h:=?_)
 refine AllGo.add 7 3 (h:=?_)
 refine AllGo.add 8 4 (h:=?_)
 refine AllGo.add 9 4 (h:=?_)
 refine AllGo.add 11 4 (h:=?_)
 refine AllGo.add 15 4 (h:=?_)
 refine AllGo.add 31 5 (h:=?_)
 refine AllGo.add 63 6 (h:=?_)
 refine AllGo.done hΓ [(0,0),(0,3),(1,1),(1,3),(3,2),(3,3),(7,3),(8,0),(8,4),(9,1),(9,4),(11,2),(11,4),(15,4),(24,0),(25,1),(27,2),(31,5),(63,6)] (hp:=?hp1) (hD:=?hD1) (h0:=?h01) (hS:=?hS1) (stE:=?stE1) (hE:=?hE1) (hT:=?hT1)
 case hp1=>kernel_rfl
 case hD1=>kernel_rfl
 case h01=>rfl
 case hS1=>
  repeat(refine List.forall_mem_cons.2 ⟨StepAt.mk' (ho:=by rfl) (hg:=by rfl) (hm:=by simp only [tabJ,eq_self,Nat.reduceEqDiff,reduceIte]<;>rfl) (hn:=by simp only [tabJ,eq_self,Nat.reduceEqDiff,Nat.reduceAdd,Nat.reducePow,reduceIte]<;>rfl) (hs:=by exact evsP) (hb:=by simp (disch:=omega) only [Sub,SubL,getS_hit,getS_miss,getS_blk,getS_kill,getS_nil,getB_nil,getB_slot,getB_hit,getB_miss,getB_kill0,getB_kill1,lsNms,vsNms,PL.nms,PV.nms,Blk.nms,bound,PV.kill,PL.kill,PL.names,List.append_nil,List.nil_append,List.cons_append,and_true,true_and,and_self, *]<;>(repeat' apply And.intro)<;>rfl),?_⟩)
  exact List.forall_mem_nil _
 case hE1=>simp only [tabJ,eq_self,Nat.reduceEqDiff,List.length_cons,List.length_nil,Nat.reduceAdd,Nat.reducePow,Nat.reduceSub,reduceIte]<;>rfl
 with_reducible apply WL.nil
 refine zR ?_
 refine At.retA (by rw [Tryz.results236]) (he:=rfl)
noncomputable def mSto:=mdl (fun t:TStore=>t.1.length≤8796093022207) (fun t=>[aSto t]) (fun t=>rB (decide (storeOk t)))
theorem mSto_eq (t:TStore)(h:t.1.length≤8796093022207):mSto [aSto t]=some (rB (decide (storeOk t))):=mdl_eq (fun a b h=>aSto_inj (by simpa using h)) t h
def findHd (l:List THeader)(n:Int):THeader×Bool:=match l.find? (fun h=>decide (h.1=n))with
 |some h=>(h,true)
 |none=>(zHd,false)
noncomputable def getHd (t:TStore)(n:Int):THeader×Bool:=if decide (storeOk t)then findHd t.1 n else(zHd,false)
abbrev rlHd (x:THeader):List RL:=[.ro (.sc (.int .i64 x.1)),.ro (.sc (.int .i64 x.2.1)),.ro (.sc (.string x.2.2.1)),.ro (.sc (.string x.2.2.2.1)),.ro (.sc (.string x.2.2.2.2.1)),.ro (.sc (.string x.2.2.2.2.2))]
abbrev rHdB (y:THeader×Bool):Res:=.tup [(true,rlHd y.1),rSc (.bool y.2)]
noncomputable def mGetSt:=mdl (fun x:TStore×Int=>x.1.1.length≤8796093022207) (fun x=>[aSto x.1,aI x.2]) (fun x=>rHdB (getHd x.1 x.2))
theorem mGetSt_eq (t:TStore)(n:Int)(h:t.1.length≤8796093022207):mGetSt [aSto t,aI n]=some (rHdB (getHd t n)):=mdl_eq (by
 rintro⟨⟨a,b⟩,c⟩ ⟨⟨d,e⟩,f⟩ h
 simp at h
 simp [h]) (t,n) h
theorem findHd_at {l:List THeader}{n:Int}{k:Nat}(h:k<l.length)(hb:∀j,j<k→¬(hdD l j).1=n)(hk:(hdD l k).1=n):findHd l n=(hdD l k,true):=by
 have:l.find? (fun h=>decide (h.1=n))=some l[k]:=by
  refine List.find?_eq_some_iff_getElem.2 ⟨by rw [←hdD_get h];exact decide_eq_true hk,k,h,rfl,fun j hj=>?_⟩
  have:=hb j hj
  rw [hdD_get (by omega)]at this
  simpa using this
 unfold findHd
 rw [this,hdD_get h]
theorem findHd_no {l:List THeader}{n:Int}(hb:∀j,j<l.length→¬(hdD l j).1=n):findHd l n=(zHd,false):=by
 have:l.find? (fun h=>decide (h.1=n))=none:=by
  refine List.find?_eq_none.2 fun x hx=>?_
  obtain⟨j,hj,rfl⟩:=List.getElem_of_mem hx
  have:=hb j hj
  rw [hdD_get hj]at this
  simpa using this
 unfold findHd
 rw [this]
end
section
def asEvStoreOk0:List (List Nat):=[[],[0],[],[2],[2,3],[0,1,2,3,4],[0,1,2,3,4,5],[0,1,2,3,4,5,6],[0,1,2,3,4,5,6,7],[0,1,2,3,4,5,6],[0,1,2,3,4,5,6,9],[0,1,2,3,4,5,6,7,8,9,10],[0,1,2,3,4,5,6,7,8,9,10,11],[0,1,2,3,4,5,6,7,8,9,10,11,12],[0,1,2,3,4,5,6,7,8,9,10,11,12,13],[0,1,2,3,4,5,6,7,8,9,10,11,12,13,14],[0,1,2,3,4,5,6,7,8,9,10,11,12,13],[0,1,2,3,4,5,6,7,8,9,10,11,12,13,16],[0,1,2,3,4,5,6,7,8,9,10,11,12,13,14,15,16,17],[0,1,2,3,4,5,6,7,8,9,10,11,12,13,14,15,16,17,18],[0,1,2,3,4,5,6,7,8,9,10,11,12,13,14,15,16,17,18,19],[0,1,2,3,4,5,6,7,8,9,10,11,12,13,14,15,16,17,18,19,20],[0,1,2,3,4,5,6,7,8,9,10,11,12,13,14,15,16,17,18,19,20,21],[0,1,2,3,4,5,6,7,8,9,10,11,12,13,14,15,16,17,18,19,20],[0,1,2,3,4,5,6,7,8,9,10,11,12,13,14,15,16,17,18,19,20,23],[0,1,2,3,4,5,6,7,8,9,10,11,12,13,14,15,16,17,18,19,20,21,22,23,24],[0,1,2,3,4,5,6,7,8,9,10,11,12,13,14,15,16,17,18,19,20,21,22,23,24,25]]
theorem stoI_s:Sound Tryz.prog 235 mSto:=by
 refine Sound.mdl Tryz.func235 rfl Tryz.ntmps235 ?_
 rintro⟨l,n⟩ w hl
 refine⟨by simp,?_⟩
 replace hl:l.length≤8796093022207:=hl
 have hΓ:=env_cons (hsO Tryz.func139) within_s (env_cons (hsO Tryz.func165) headI_s (env_cons (hsO Tryz.func144) headIdI_s env_nil))
 have hlen:=rowsF_len cHeader l
 refine zJ ?_
 refine W.loopA (fun k=>k≤l.length∧∀j,j<k→hdAt l j) (fun k:Nat=>[.slot 1 (one (.ptr 1 0)),.blk 1 (bxSto (l,n)),.slot 7 (vL cHeader l),.slot 8 (vI l.length),.slot 9 (vI k)]) (fun k=>l.length-k) 0 ⟨Nat.zero_le _,fun j hj=>by omega⟩ (h:=?_)
 rintro k ⟨hk,hI⟩
 by_cases hlt:k<l.length
 ·have hrow:=hdD_row hlt
  have hrow1:0<k→(rowsF cHeader l)[k-1]?=some (lHd (hdD l (k-1))):=fun h=>hdD_row (by omega)
  have hbdH:¬headOk (hdD l k)→decide (storeOk (l,n))=false:=fun h=>store_bad hlt fun q=>h q.1
  have hbd:0<k→¬linkOk (hdD l (k-1)) (hdD l k)→decide (storeOk (l,n))=false:=fun h0 h=>store_bad hlt fun q=>h (q.2 h0)
  have hnx:headOk (hdD l k)→(0<k→linkOk (hdD l (k-1)) (hdD l k))→∀j,j<k+1→hdAt l j:=fun a b=>hd_next hI ⟨a,b⟩
  have hyb:0<k→(1≤(hdD l (k-1)).1∧(hdD l (k-1)).1≤1000000):=fun h=>(hI (k-1) (by omega)).1.1
  clear hI
  unfold linkOk at hnx hbd
  have c1:=mHead_eq (hdD l k)
  have c2:=mHeadId_eq (hdD l (k-1))
  dsimp only [aHd]at c1 c2
  have ek:((k:Int)-1).toNat=k-1:=by omega
  generalize headId (hdD l (k-1))=hy at*
  by_cases h1:headOk (hdD l k)
  ·rw [decide_eq_true h1]at c1
   replace hnx:=hnx h1
   clear h1 hbdH
   generalize hdD l k=x at*
   generalize hdD l (k-1)=y at*
   obtain⟨x1,x2,x3,x4,x5,x6⟩:=x
   obtain⟨y1,y2,y3,y4,y5,y6⟩:=y
   dsimp only [lHd]at hnx hbd hrow hrow1 c1 c2 hyb
   by_cases h2:0<k
   ·replace hrow1:=hrow1 h2
    replace hyb:=hyb h2
    by_cases h3:x1=y1+1
    ·by_cases h4:x3=hy
     ·by_cases h5:y2<x2
      ·by_cases h6:x4=y5
       ·have hnz:=Lib.hid (hnx fun _=>⟨h3,h4,h5,h6⟩)
        clear hnx hbd
        subst h3 h4 h6
        refine zR ?_
        refine W.drawB hΓ 27 asEvStoreOk0 (Es:=?Es5) (rest:=?rest5) (st1:=?st15) ?_
        refine zQ ?_
        exact At.roundA (k+1) ⟨by omega,hnz.out⟩ (by omega)
       ·replace hbd:=Lib.hid (hbd h2 fun h=>h6 h.2.2.2)
        clear hnx
        subst h3 h4
        refine zR ?_
        refine W.drawB hΓ 27 asEvStoreOk0 (Es:=?Es8) (rest:=?rest8) (st1:=?st18) ?_
        refine zQ ?_
        refine At.retA (by rw [Tryz.results235]) (he:=?_)
        rw [hbd.out]
      ·replace hbd:=Lib.hid (hbd h2 fun h=>h5 h.2.2.1)
       clear hnx
       subst h3 h4
       refine zR ?_
       refine W.drawB hΓ 27 asEvStoreOk0 (Es:=?Es12) (rest:=?rest12) (st1:=?st112) ?_
       refine zQ ?_
       refine At.retA (by rw [Tryz.results235]) (he:=?_)
       rw [hbd.out]
     ·replace hbd:=Lib.hid (hbd h2 fun h=>h4 h.2.1)
      clear hnx
      subst h3
      refine zR ?_
      refine W.drawB hΓ 27 asEvStoreOk0 (Es:=?Es16) (rest:=?rest16) (st1:=?st116) ?_
      refine zQ ?_
      refine At.retA (by rw [Tryz.results235]) (he:=?_)
      rw [hbd.out]
    ·replace hbd:=Lib.hid (hbd h2 fun h=>h3 h.1)
     clear hnx
     refine zR ?_
     refine W.drawB hΓ 27 asEvStoreOk0 (Es:=?Es20) (rest:=?rest20) (st1:=?st120) ?_
     refine zQ ?_
     refine At.retA (by rw [Tryz.results235]) (he:=?_)
     rw [hbd.out]
   ·have hnz:=Lib.hid (hnx fun h=>absurd h h2)
    have hk0:k=0:=by omega
    clear hnx hbd hrow1 hyb c2
    subst hk0
    refine zR ?_
    exact At.roundA (0+1) ⟨by omega,hnz.out⟩ (by omega)
  ·replace hbd:=Lib.hid (hbdH h1)
   clear hbdH
   rw [decide_eq_false h1]at c1
   clear hnx h1 hrow1 hyb c2
   generalize hdD l k=x at*
   obtain⟨x1,x2,x3,x4,x5,x6⟩:=x
   dsimp only [lHd]at hrow c1
   refine zR ?_
   refine At.retA (by rw [Tryz.results235]) (he:=?_)
   rw [hbd.out]
 ·have c5:=mWithin_eq n 0 l.length
  by_cases h6:l.length≤20
  ·by_cases h7:0≤n∧n≤(l.length:Int)
   ·have hgood:decide (storeOk (l,n))=true:=dcT ⟨⟨h6,h7⟩,fun j hj=>hI j (by have hj:j<l.length:=hj;omega)⟩
    have hgood:=Lib.hid hgood
    rw [decide_eq_true h7]at c5
    clear hI h7
    refine zR ?_
    refine At.retA (by rw [Tryz.results235]) (he:=?_)
    rw [hgood.out]
   ·have hbd:decide (storeOk (l,n))=false:=dcF fun h=>h7 h.1.2
    have hbd:=Lib.hid hbd
    rw [decide_eq_false h7]at c5
    clear hI h7
    refine zR ?_
    refine At.retA (by rw [Tryz.results235]) (he:=?_)
    rw [hbd.out]
  ·have hbd:decide (storeOk (l,n))=false:=dcF fun h=>h6 h.1.1
   have hbd:=Lib.hid hbd
   clear hI c5
   refine zR ?_
   refine At.retA (by rw [Tryz.results235]) (he:=?_)
   rw [hbd.out]
theorem stoS_s:Sound Tryz.prog 210 mSto:=by
 refine Sound.mdl Tryz.func210 rfl Tryz.ntmps210 ?_
 rintro⟨l,n⟩ w hl
 refine⟨by simp,?_⟩
 replace hl:l.length≤8796093022207:=hl
 have hΓ:=env_cons (hsO Tryz.func39) l1In_s (env_cons (hsO Tryz.func50) headS_s (env_cons (hsO Tryz.func13) headIdS_s env_nil))
 have hlen:=rowsF_len cHeader l
 have c5:=mIn_eq n 0 l.length
 refine zI ?_
 by_cases h6:l.length≤20
 ·by_cases h7:0≤n∧n≤(l.length:Int)
  ·have c5':=Lib.hid c5
   rw [decide_eq_true h7]at c5
   have h7:=Lib.hid h7
   refine zR ?_
   clear c5 c5'
   refine W.loopA (fun k=>k≤l.length∧∀j,j<k→hdAt l j) (fun k:Nat=>[.slot 1 (one (.ptr 1 0)),.blk 1 (bxSto (l,n)),.slot 3 (vI k)]) (fun k=>l.length-k) 0 ⟨Nat.zero_le _,fun j hj=>by omega⟩ (h:=?_)
   rintro k ⟨hk,hI⟩
   by_cases hlt:k<l.length
   ·have hrow:=hdD_row hlt
    have hrow1:0<k→(rowsF cHeader l)[k-1]?=some (lHd (hdD l (k-1))):=fun h=>hdD_row (by omega)
    have hbdH:¬headOk (hdD l k)→decide (storeOk (l,n))=false:=fun h=>store_bad hlt fun q=>h q.1
    have hbd:0<k→¬linkOk (hdD l (k-1)) (hdD l k)→decide (storeOk (l,n))=false:=fun h0 h=>store_bad hlt fun q=>h (q.2 h0)
    have hnx:headOk (hdD l k)→(0<k→linkOk (hdD l (k-1)) (hdD l k))→∀j,j<k+1→hdAt l j:=fun a b=>hd_next hI ⟨a,b⟩
    have hyb:0<k→(1≤(hdD l (k-1)).1∧(hdD l (k-1)).1≤1000000):=fun h=>(hI (k-1) (by omega)).1.1
    clear hI
    unfold linkOk at hnx hbd
    have c1:=mHead_eq (hdD l k)
    have c2:=mHeadId_eq (hdD l (k-1))
    dsimp only [aHd]at c1 c2
    have ek:((k:Int)-1).toNat=k-1:=by omega
    generalize headId (hdD l (k-1))=hy at*
    by_cases h1:headOk (hdD l k)
    ·rw [decide_eq_true h1]at c1
     replace hnx:=hnx h1
     clear h1 hbdH
     generalize hdD l k=x at*
     generalize hdD l (k-1)=y at*
     obtain⟨x1,x2,x3,x4,x5,x6⟩:=x
     obtain⟨y1,y2,y3,y4,y5,y6⟩:=y
     dsimp only [lHd]at hnx hbd hrow hrow1 c1 c2 hyb
     by_cases h2:0<k
     ·replace hrow1:=hrow1 h2
      replace hyb:=hyb h2
      by_cases h3:x1=y1+1
      ·by_cases h4:x3=hy
       ·by_cases h5:y2<x2
        ·by_cases h6:x4=y5
         ·have hnz:=Lib.hid (hnx fun _=>⟨h3,h4,h5,h6⟩)
          clear hnx hbd
          subst h3 h4 h6
          refine zR ?_
          refine W.drawB hΓ 27 asEvStoreOk0 (Es:=?Es36) (rest:=?rest36) (st1:=?st136) ?_
          refine zQ ?_
          exact At.roundA (k+1) ⟨by omega,hnz.out⟩ (by omega)
         ·replace hbd:=Lib.hid (hbd h2 fun h=>h6 h.2.2.2)
          clear hnx
          subst h3 h4
          refine zR ?_
          refine W.drawB hΓ 27 asEvStoreOk0 (Es:=?Es39) (rest:=?rest39) (st1:=?st139) ?_
          refine zQ ?_
          refine At.retA (by rw [Tryz.results210]) (he:=?_)
          rw [hbd.out]
        ·replace hbd:=Lib.hid (hbd h2 fun h=>h5 h.2.2.1)
         clear hnx
         subst h3 h4
         refine zR ?_
         refine W.drawB hΓ 27 asEvStoreOk0 (Es:=?Es43) (rest:=?rest43) (st1:=?st143) ?_
         refine zQ ?_
         refine At.retA (by rw [Tryz.results210]) (he:=?_)
         rw [hbd.out]
       ·replace hbd:=Lib.hid (hbd h2 fun h=>h4 h.2.1)
        clear hnx
        subst h3
        refine zR ?_
        refine W.drawB hΓ 27 asEvStoreOk0 (Es:=?Es47) (rest:=?rest47) (st1:=?st147) ?_
        refine zQ ?_
        refine At.retA (by rw [Tryz.results210]) (he:=?_)
        rw [hbd.out]
      ·replace hbd:=Lib.hid (hbd h2 fun h=>h3 h.1)
       clear hnx
       refine zR ?_
       refine W.drawB hΓ 27 asEvStoreOk0 (Es:=?Es51) (rest:=?rest51) (st1:=?st151) ?_
       refine zQ ?_
       refine At.retA (by rw [Tryz.results210]) (he:=?_)
       rw [hbd.out]
     ·have hnz:=Lib.hid (hnx fun h=>absurd h h2)
      have hk0:k=0:=by omega
      clear hnx hbd hrow1 hyb c2
      subst hk0
      refine zR ?_
      exact At.roundA (0+1) ⟨by omega,hnz.out⟩ (by omega)
    ·replace hbd:=Lib.hid (hbdH h1)
     clear hbdH
     rw [decide_eq_false h1]at c1
     clear hnx h1 hrow1 hyb c2
     generalize hdD l k=x at*
     obtain⟨x1,x2,x3,x4,x5,x6⟩:=x
     dsimp only [lHd]at hrow c1
     refine zR ?_
     refine At.retA (by rw [Tryz.results210]) (he:=?_)
     rw [hbd.out]
   ·have hgood:decide (storeOk (l,n))=true:=dcT ⟨⟨h6,h7.out⟩,fun j hj=>hI j (by have hj:j<l.length:=hj;omega)⟩
    have hgood:=Lib.hid hgood
    clear hI
    refine zR ?_
    refine At.retA (by rw [Tryz.results210]) (he:=?_)
    rw [hgood.out]
  ·have hbd:decide (storeOk (l,n))=false:=dcF fun h=>h7 h.1.2
   have hbd:=Lib.hid hbd
   rw [decide_eq_false h7]at c5
   clear h7
   refine zR ?_
   refine At.retA (by rw [Tryz.results210]) (he:=?_)
   rw [hbd.out]
 ·have hbd:decide (storeOk (l,n))=false:=dcF fun h=>h6 h.1.1
  have hbd:=Lib.hid hbd
  clear c5
  refine zR ?_
  refine At.retA (by rw [Tryz.results210]) (he:=?_)
  rw [hbd.out]
end
section
theorem getStI_s:Sound Tryz.prog 197 mGetSt:=by
 refine Sound.mdl Tryz.func197 rfl Tryz.ntmps197 ?_
 rintro⟨⟨l,n⟩,m⟩ w hl
 refine⟨by simp,?_⟩
 replace hl:l.length≤8796093022207:=hl
 have hΓ:=env_cons (hsO Tryz.func235) stoI_s env_nil
 have c1:=mSto_eq (l,n) hl
 have hv:getHd (l,n) m=if decide (storeOk (l,n))then findHd l m else(zHd,false):=rfl
 have hlen:=rowsF_len cHeader l
 refine zI ?_
 cases hok:decide (storeOk (l,n))with
 |true=>
  rw [hok]at c1 hv
  replace hv:getHd (l,n) m=findHd l m:=hv
  clear hok
  have hv:=Lib.hid hv
  refine zR ?_
  refine W.loopA (fun k=>k≤l.length∧∀j,j<k→¬(hdD l j).1=m) (fun k:Nat=>[.slot 1 (vI m),.slot 4 (one (.ptr 4 0)),.blk 4 (.box [.sc (.int .i64 0),.sc (.int .i64 0),.sc (.string ByteArray.empty),.sc (.string ByteArray.empty),.sc (.string ByteArray.empty),.sc (.string ByteArray.empty)]),.slot 13 (vL cHeader l),.slot 14 (vI l.length),.slot 15 (vI k)]) (fun k=>l.length-k) 0 ⟨Nat.zero_le _,fun j hj=>by omega⟩ (h:=?_)
  rintro k ⟨hk,hI⟩
  by_cases hlt:k<l.length
  ·have hrow:=hdD_row hlt
   by_cases h1:(hdD l k).1=m
   ·have hf:=findHd_at hlt hI h1
    rw [hf]at hv
    have hv:=Lib.hid hv.out
    clear hI hf
    generalize hdD l k=x at*
    obtain⟨x1,x2,x3,x4,x5,x6⟩:=x
    dsimp only [lHd]at hrow h1
    subst h1
    refine zR ?_
    refine At.retA (by rw [Tryz.results197]) (he:=?_)
    rw [hv.out]
   ·have hnx:∀j,j<k+1→¬(hdD l j).1=m:=fun j hj=>by
     rcases Nat.lt_or_ge j k with h2|h2
     ·exact hI j h2
     ·have:j=k:=by omega
      subst this
      exact h1
    have hnx:=Lib.hid hnx
    clear hI
    generalize hdD l k=x at hrow h1
    obtain⟨x1,x2,x3,x4,x5,x6⟩:=x
    dsimp only [lHd]at hrow h1
    refine zR ?_
    exact At.roundA (k+1) ⟨by omega,hnx.out⟩ (by omega)
  ·have hf:=findHd_no (l:=l) (n:=m) (fun j hj=>hI j (by omega))
   rw [hf]at hv
   have hv:=Lib.hid hv.out
   clear hI hf
   refine zR ?_
   refine At.retA (by rw [Tryz.results197]) (he:=?_)
   rw [hv.out]
   rfl
 |false=>
  rw [hok]at c1 hv
  replace hv:getHd (l,n) m=(zHd,false):=hv
  clear hok
  have hv:=Lib.hid hv
  refine zR ?_
  refine At.retA (by rw [Tryz.results197]) (he:=?_)
  rw [hv.out]
  rfl
theorem getStS_s:Sound Tryz.prog 161 mGetSt:=by
 refine Sound.mdl Tryz.func161 rfl Tryz.ntmps161 ?_
 rintro⟨⟨l,n⟩,m⟩ w hl
 refine⟨by simp,?_⟩
 replace hl:l.length≤8796093022207:=hl
 have hΓ:=env_cons (hsO Tryz.func210) stoS_s env_nil
 have c1:=mSto_eq (l,n) hl
 have hv:getHd (l,n) m=if decide (storeOk (l,n))then findHd l m else(zHd,false):=rfl
 have hlen:=rowsF_len cHeader l
 refine zI ?_
 cases hok:decide (storeOk (l,n))with
 |true=>
  rw [hok]at c1 hv
  replace hv:getHd (l,n) m=findHd l m:=hv
  clear hok
  have hv:=Lib.hid hv
  refine zR ?_
  refine W.loopA (fun k=>k≤l.length∧∀j,j<k→¬(hdD l j).1=m) (fun k:Nat=>[.slot 1 (vI m),.slot 2 (one (.ptr 2 0)),.blk 2 (bxSto (l,n)),.slot 4 (one (.ptr 4 0)),.blk 4 (.box [.sc (.int .i64 0),.sc (.int .i64 0),.sc (.string ByteArray.empty),.sc (.string ByteArray.empty),.sc (.string ByteArray.empty),.sc (.string ByteArray.empty)]),.slot 6 (vI k)]) (fun k=>l.length-k) 0 ⟨Nat.zero_le _,fun j hj=>by omega⟩ (h:=?_)
  rintro k ⟨hk,hI⟩
  by_cases hlt:k<l.length
  ·have hrow:=hdD_row hlt
   by_cases h1:(hdD l k).1=m
   ·have hf:=findHd_at hlt hI h1
    rw [hf]at hv
    have hv:=Lib.hid hv.out
    clear hI hf
    generalize hdD l k=x at*
    obtain⟨x1,x2,x3,x4,x5,x6⟩:=x
    dsimp only [lHd]at hrow h1
    subst h1
    refine zR ?_
    refine At.retA (by rw [Tryz.results161]) (he:=?_)
    rw [hv.out]
   ·have hnx:∀j,j<k+1→¬(hdD l j).1=m:=fun j hj=>by
     rcases Nat.lt_or_ge j k with h2|h2
     ·exact hI j h2
     ·have:j=k:=by omega
      subst this
      exact h1
    have hnx:=Lib.hid hnx
    clear hI
    generalize hdD l k=x at hrow h1
    obtain⟨x1,x2,x3,x4,x5,x6⟩:=x
    dsimp only [lHd]at hrow h1
    refine zR ?_
    exact At.roundA (k+1) ⟨by omega,hnx.out⟩ (by omega)
  ·have hf:=findHd_no (l:=l) (n:=m) (fun j hj=>hI j (by omega))
   rw [hf]at hv
   have hv:=Lib.hid hv.out
   clear hI hf
   refine zR ?_
   refine At.retA (by rw [Tryz.results161]) (he:=?_)
   rw [hv.out]
   rfl
 |false=>
  rw [hok]at c1 hv
  replace hv:getHd (l,n) m=(zHd,false):=hv
  clear hok
  have hv:=Lib.hid hv
  by_cases hz:l.length=0
  ·refine zR ?_
   refine W.loopA (fun k=>k=0) (fun k:Nat=>[.slot 1 (vI m),.slot 2 (one (.ptr 2 0)),.blk 2 (bxSto (l,n)),.slot 4 (one (.ptr 4 0)),.blk 4 (.box [.sc (.int .i64 0),.sc (.int .i64 0),.sc (.string ByteArray.empty),.sc (.string ByteArray.empty),.sc (.string ByteArray.empty),.sc (.string ByteArray.empty)]),.slot 6 (vI k)]) (fun k=>l.length-k) 0 rfl (h:=?_)
   rintro k rfl
   refine zR ?_
   refine At.retA (by rw [Tryz.results161]) (he:=?_)
   rw [hv.out]
   rfl
  ·refine zR ?_
   refine W.loopA (fun k=>k=0) (fun k:Nat=>[.slot 1 (vI m),.slot 2 (one (.ptr 2 0)),.blk 2 (bxSto (l,n)),.slot 4 (one (.ptr 4 0)),.blk 4 (.box [.sc (.int .i64 0),.sc (.int .i64 0),.sc (.string ByteArray.empty),.sc (.string ByteArray.empty),.sc (.string ByteArray.empty),.sc (.string ByteArray.empty)]),.slot 6 (vI k)]) (fun k=>l.length-k) 0 rfl (h:=?_)
   rintro k rfl
   refine zR ?_
   refine At.retA (by rw [Tryz.results161]) (he:=?_)
   rw [hv.out]
   rfl
noncomputable def addSt (t:TStore)(h:THeader):TStore×Bool:=if decide (storeOk (t.1++[h],t.2))then((t.1++[h],t.2),true)else(t,false)
abbrev rStoB (y:TStore×Bool):Res:=.tup [(true,rSto y.1),rSc (.bool y.2)]
noncomputable def mAddSt:=mdl (fun x:TStore×THeader=>storeOk x.1) (fun x=>[aSto x.1,aHd x.2]) (fun x=>rStoB (addSt x.1 x.2))
theorem mAddSt_eq (t:TStore)(h:THeader)(ht:storeOk t):mAddSt [aSto t,aHd h]=some (rStoB (addSt t h)):=mdl_eq (by
 rintro⟨⟨a,b⟩,c⟩ ⟨⟨d,e⟩,f⟩ h
 have h1:aSto (a,b)=aSto (d,e):=by injection h
 have h2:[aHd c]=[aHd f]:=by injection h
 rw [aHd_inj _ _ h2,aSto_inj h1]) (t,h) ht
noncomputable def mSyncSt:=mdl storeOk (fun t=>[aSto t]) (fun t=>rStoB ((t.1,(t.1.length:Int)),true))
theorem mSyncSt_eq (t:TStore)(h:storeOk t):mSyncSt [aSto t]=some (rStoB ((t.1,(t.1.length:Int)),true)):=mdl_eq (fun a b h=>aSto_inj (by simpa using h)) t h
theorem addStI_s:Sound Tryz.prog 199 mAddSt:=by
 refine Sound.mdl Tryz.func199 rfl Tryz.ntmps199 ?_
 rintro⟨⟨l,n⟩,⟨x1,x2,x3,x4,x5,x6⟩⟩ w ht
 refine⟨by simp,?_⟩
 replace ht:storeOk (l,n):=ht
 have hΓ:=env_cons (hsO Tryz.func235) stoI_s (env_cons (hsO Tryz.func236) copySt_s env_nil)
 have hl6:l.length≤20:=ht.1.1
 have c1:=mSto_eq (l,n) (show l.length≤_ by omega)
 rw [decide_eq_true ht]at c1
 have c2:=mCopySt_eq (l,n) (show l.length≤_ by omega)
 have c3:=mSto_eq (l++[(x1,x2,x3,x4,x5,x6)],n) (show(l++[(x1,x2,x3,x4,x5,x6)]).length≤_ by simp;omega)
 have hlen:=rowsF_len cHeader l
 have happ:=cHeader_app l (x1,x2,x3,x4,x5,x6)
 dsimp only [lHd]at happ
 have hv:addSt (l,n) (x1,x2,x3,x4,x5,x6)=if decide (storeOk (l++[(x1,x2,x3,x4,x5,x6)],n))then((l++[(x1,x2,x3,x4,x5,x6)],n),true)else((l,n),false):=rfl
 clear ht
 refine zI ?_
 cases hok:decide (storeOk (l++[(x1,x2,x3,x4,x5,x6)],n))with
 |true=>
  rw [hok]at c3 hv
  replace hv:addSt (l,n) (x1,x2,x3,x4,x5,x6)=((l++[(x1,x2,x3,x4,x5,x6)],n),true):=hv
  clear hok
  have hv:=Lib.hid hv
  refine zR ?_
  refine At.retA (by rw [Tryz.results199]) (he:=?_)
  rw [hv.out]
 |false=>
  rw [hok]at c3 hv
  replace hv:addSt (l,n) (x1,x2,x3,x4,x5,x6)=((l,n),false):=hv
  clear hok
  have hv:=Lib.hid hv
  refine zR ?_
  refine At.retA (by rw [Tryz.results199]) (he:=?_)
  rw [hv.out]
theorem syncStI_s:Sound Tryz.prog 200 mSyncSt:=by
 refine Sound.mdl Tryz.func200 rfl Tryz.ntmps200 ?_
 rintro⟨l,n⟩ w ht
 refine⟨by simp,?_⟩
 replace ht:storeOk (l,n):=ht
 have hΓ:=env_cons (hsO Tryz.func235) stoI_s (env_cons (hsO Tryz.func236) copySt_s env_nil)
 have hl6:l.length≤20:=ht.1.1
 have c1:=mSto_eq (l,n) (show l.length≤_ by omega)
 rw [decide_eq_true ht]at c1
 have c2:=mCopySt_eq (l,n) (show l.length≤_ by omega)
 have hlen:=rowsF_len cHeader l
 clear ht
 refine zJ ?_
 refine At.retA (by rw [Tryz.results200]) (he:=rfl)
end
section
def bnd (l:List TPeer)(now id:Int):Bool:=l.any fun p=>decide (p.1=id)&&decide (now<p.2.2.1)
def banK (l:List TPeer)(now:Int)(k:Nat):List Int:=((List.range k).map fun j:Nat=>(j:Int)+1).filter (bnd l now)
def banL (l:List TPeer)(now:Int):List Int:=banK l now 99
theorem banK_succ (l:List TPeer)(now:Int)(k:Nat):banK l now (k+1)=banK l now k++(if bnd l now ((k:Int)+1)=true then [(k:Int)+1]else []):=by
 unfold banK
 rw [List.range_succ,List.map_append,List.filter_append]
 congr 1
 cases hb:bnd l now ((k:Int)+1)<;>simp [hb]
theorem banK_len (l:List TPeer)(now:Int)(k:Nat):(banK l now k).length≤k:=by
 unfold banK
 refine Nat.le_trans (List.length_filter_le _ _) ?_
 simp
theorem banK_up (l:List TPeer)(now:Int)(k:Nat):(banK l now k).Pairwise (· <·):=by
 unfold banK
 refine List.Pairwise.filter _ ?_
 rw [List.pairwise_map]
 exact List.pairwise_lt_range.imp fun h=>by omega
theorem banL_mem {l:List TPeer}{now x:Int}:x∈banL l now↔(1≤x∧x≤99)∧bnd l now x=true:=by
 unfold banL banK
 rw [List.mem_filter,List.mem_map]
 constructor
 ·rintro⟨⟨k,hk,rfl⟩,h⟩
  have:=List.mem_range.1 hk
  exact⟨⟨by omega,by omega⟩,h⟩
 ·rintro⟨⟨h1,h2⟩,h⟩
  exact⟨⟨(x-1).toNat,List.mem_range.2 (by omega),by omega⟩,h⟩
theorem tab_inj {t:TTab}(h:tabOk t){i j:Nat}(hi:i<t.1.length)(hj:j<t.1.length)(e:t.1[i].1=t.1[j].1):i=j:=by
 have h1:=(h.2 i hi).2
 have h2:=(h.2 j hj).2
 rw [peerD_get hi]at h1
 rw [peerD_get hj]at h2
 rw [e,h2]at h1
 omega
theorem bnd_at {l:List TPeer}{n now id:Int}(h:tabOk (l,n)){k:Nat}(hk:k<l.length)(he:l[k].1=id):bnd l now id=decide (now<l[k].2.2.1):=by
 unfold bnd
 by_cases hu:now<l[k].2.2.1
 ·rw [decide_eq_true hu,List.any_eq_true]
  exact⟨l[k],List.getElem_mem hk,by simp [he,hu]⟩
 ·rw [decide_eq_false hu,List.any_eq_false]
  intro p hp
  obtain⟨j,hj,rfl⟩:=List.getElem_of_mem hp
  intro q
  simp only [Bool.and_eq_true,decide_eq_true_eq]at q
  have:=tab_inj h (i:=j) (j:=k) hj hk (q.1.trans he.symm)
  subst this
  exact hu q.2
theorem bnd_no {l:List TPeer}{now id:Int}(h:atP l id= -1):bnd l now id=false:=by
 rcases idxP_cases' (fun p:TPeer=>decide (p.1=id)) l with⟨k,hk,h1,_,_⟩|⟨_,h2⟩
 ·have:atP l id=(k:Int):=h1
  omega
 ·unfold bnd
  rw [List.any_eq_false]
  intro p hp
  obtain⟨j,hj,rfl⟩:=List.getElem_of_mem hp
  have:=h2 j hj
  simp only [decide_eq_false_iff_not]at this
  simp [this]
def outB (l:List TPeer)(now:Int)(k:Nat):List Int:=((l.take k).filter fun p=>decide (now<p.2.2.1)).map fun p=>p.1
theorem outB_succ {l:List TPeer}{now:Int}{k:Nat}(hk:k<l.length):outB l now (k+1)=outB l now k++(if now<l[k].2.2.1 then [l[k].1]else []):=by
 unfold outB
 rw [List.take_add_one,gsE hk,List.filter_append,List.map_append]
 congr 1
 by_cases h:now<l[k].2.2.1<;>simp [h]
theorem outB_len (l:List TPeer)(now:Int)(k:Nat):(outB l now k).length≤k:=by
 unfold outB
 rw [List.length_map]
 refine Nat.le_trans (List.length_filter_le _ _) ?_
 rw [List.length_take]
 omega
theorem outB_of {l:List TPeer}{n now:Int}{l':List Int}(h:tabOk (l,n))(hp:l'.Perm (outB l now l.length))(hs:l'.Pairwise (· ≤·)):l'=banL l now:=by
 have hnd:(outB l now l.length).Nodup:=by
  unfold outB
  rw [List.take_length]
  have h1:(l.map fun p=>p.1).Nodup:=by
   rw [List.nodup_iff_pairwise_ne,List.pairwise_iff_getElem]
   intro i j hi hj hij e
   rw [List.length_map]at hi hj
   rw [List.getElem_map,List.getElem_map]at e
   have:=tab_inj h (i:=i) (j:=j) hi hj e
   omega
  exact h1.sublist (List.filter_sublist.map _)
 have hnd':l'.Nodup:=hp.nodup_iff.2 hnd
 have hlt:l'.Pairwise (· <·):=by
  have:=hs.and (List.nodup_iff_pairwise_ne.1 hnd')
  exact this.imp fun⟨a,b⟩=>by omega
 refine strict_ext hlt (banK_up l now 99) fun x=>?_
 rw [hp.mem_iff]
 show x∈outB l now l.length↔x∈banL l now
 rw [banL_mem]
 unfold outB bnd
 rw [List.take_length,List.mem_map,List.any_eq_true]
 constructor
 ·rintro⟨p,hp,rfl⟩
  obtain⟨h1,h2⟩:=List.mem_filter.1 hp
  obtain⟨j,hj,rfl⟩:=List.getElem_of_mem h1
  exact⟨(tabOk_at h (k:=j) hj).1,l[j],h1,by simpa using h2⟩
 ·rintro⟨_,p,hp,hq⟩
  simp only [Bool.and_eq_true,decide_eq_true_eq]at hq
  exact⟨p,List.mem_filter.2 ⟨hp,by simpa using hq.2⟩,hq.1⟩
noncomputable def mBan:=mdl (fun x:TTab×Int=>tabOk x.1∧(0≤x.2∧x.2≤1000000)) (fun x=>[aTab x.1,aI x.2]) (fun x=>rL 3 1 cInt (banL x.1.1 x.2))
theorem mBan_eq (t:TTab)(now:Int)(h:tabOk t)(hn:0≤now∧now≤1000000):mBan [aTab t,aI now]=some (rL 3 1 cInt (banL t.1 now)):=mdl_eq (by
 rintro⟨⟨a,b⟩,c⟩ ⟨⟨d,e⟩,f⟩ h
 simp at h
 simp [h]) (t,now) ⟨h,hn⟩
theorem banI_s:Sound Tryz.prog 145 mBan:=by
 refine Sound.mdl Tryz.func145 rfl Tryz.ntmps145 ?_
 rintro⟨⟨l,n⟩,now⟩ w ⟨ht,hn0,hn1⟩
 refine⟨by simp,?_⟩
 replace ht:tabOk (l,n):=ht
 replace hn0:0≤now:=hn0
 replace hn1:now≤1000000:=hn1
 have hΓ:=env_cons (hsO Tryz.func189) tabI_s (env_cons (hsO Tryz.func125) isTime_s env_nil)
 have hSo:Has Tryz.prog 174:=hsO Tryz.func174
 have hl6:l.length≤6:=tabOk_len ht
 have c1:=mTab_eq (l,n) (show l.length≤_ by omega)
 rw [decide_eq_true ht]at c1
 have c2:=mTime_eq now
 rw [decide_eq_true ⟨hn0,hn1⟩]at c2
 have hlen:=rowsF_len cPeer l
 have hfin:=fun l'=>outB_of (l:=l) (n:=n) (now:=now) (l':=l') ht
 replace hfin:=Lib.hid hfin
 clear ht
 have hz:rowsF cInt (outB l now 0)=[]:=rfl
 refine zJ ?_
 refine W.loopA (fun k=>k≤l.length) (fun k:Nat=>[.slot 1 (vI now),.slot 5 (one (.all 16)),.blk 16 (.arr .ft 3 1 (rowsF cInt (outB l now k))),.slot 18 (vL cPeer l),.slot 19 (vI l.length),.slot 20 (vI k)]) (fun k=>l.length-k) 0 (Nat.zero_le _) (h:=?_)
 clear c1 c2 hz
 rintro k hk
 have hol:=outB_len l now k
 by_cases hlt:k<l.length
 ·have hrow:=cPeer_row l k hlt
  have hsu:=outB_succ (l:=l) (now:=now) hlt
  by_cases hu:now<l[k].2.2.1
  ·rw [if_pos hu]at hsu
   have e:rowsF cInt (outB l now k)++[[.sc (.int .i64 l[k].1)]]=rowsF cInt (outB l now (k+1)):=by rw [hsu,←rowsF_app];rfl
   clear hsu
   generalize l[k]=x at*
   refine zR ?_
   exact At.roundA (k+1) (by omega) (by omega)
  ·rw [if_neg hu,List.append_nil]at hsu
   generalize l[k]=x at*
   refine zR ?_
   refine At.roundA (k+1) (by omega) (by omega) (hs:=?_)
   rw [hsu]
   exact subP
 ·have hke:k=l.length:=by omega
  subst hke
  refine zV ?_
  refine WL.opSort1A (n:=16) hSo sortI_s (fun _=>rfl) (outB l now l.length) (by omega) (h:=?_)
  rintro l' hp hs
  refine zM ?_
  have hcv:=hfin.out l' hp hs
  clear hp hs
  subst hcv
  refine zR ?_
  refine At.retA (by rw [Tryz.results145]) (he:=rfl)
theorem banS_s:Sound Tryz.prog 162 mBan:=by
 refine Sound.mdl Tryz.func162 rfl Tryz.ntmps162 ?_
 rintro⟨⟨l,n⟩,now⟩ w ⟨ht,hn0,hn1⟩
 refine⟨by simp,?_⟩
 replace ht:tabOk (l,n):=ht
 replace hn0:0≤now:=hn0
 replace hn1:now≤1000000:=hn1
 have hΓ:=env_cons (hsO Tryz.func207) tabS_s (env_cons (hsO Tryz.func74) l10Time_s (env_cons (hsO Tryz.func209) atPS_s env_nil))
 have hl6:l.length≤6:=tabOk_len ht
 have c1:=mTab_eq (l,n) (show l.length≤_ by omega)
 rw [decide_eq_true ht]at c1
 have c2:=mTime_eq now
 rw [decide_eq_true ⟨hn0,hn1⟩]at c2
 have hlen:=rowsF_len cPeer l
 have hbat:=fun id (k:Nat) hk he=>bnd_at (now:=now) (id:=id) ht (k:=k) hk he
 replace hbat:=Lib.hid hbat
 clear ht
 have hz:rowsF cInt (banK l now 0)=[]:=rfl
 refine zJ ?_
 refine W.loopA (fun k=>k≤99) (fun k:Nat=>[.slot 1 (vI now),.slot 2 (one (.ptr 2 0)),.blk 2 (bxTab (l,n)),.slot 5 (one (.all 8)),.blk 8 (.arr .ft 3 1 (rowsF cInt (banK l now k))),.slot 6 (vI ((k:Int)+1))]) (fun k=>99-k) 0 (Nat.zero_le _) (h:=?_)
 clear hz
 rintro k hk
 have hol:=banK_len l now k
 by_cases hlt:k<99
 ·have hsu:=banK_succ l now k
  have c3:=mAtP_eq (l,n) ((k:Int)+1) (show l.length≤_ by omega)
  dsimp only at c3
  have hk1:(((k+1:Nat):Int)+1)=(k:Int)+1+1:=by omega
  have hle:(k:Int)+1≤99:=by omega
  rcases atP_cases l ((k:Int)+1)with⟨j,hj,e1,e2⟩|e1
  ·rw [hbat.out ((k:Int)+1) j hj e2]at hsu
   have hrow:=cPeer_row l j hj
   rw [e1]at c3
   clear e1 e2
   by_cases hu:now<l[j].2.2.1
   ·rw [decide_eq_true hu,if_pos rfl]at hsu
    have e:rowsF cInt (banK l now k)++[[.sc (.int .i64 ((k:Int)+1))]]=rowsF cInt (banK l now (k+1)):=by rw [hsu,←rowsF_app];rfl
    clear hsu
    generalize l[j]=x at*
    refine zR ?_
    refine At.roundA (k+1) (by omega) (by omega) (hs:=?_)
    rw [hk1]
    exact subP
   ·rw [decide_eq_false hu,if_neg (by decide),List.append_nil]at hsu
    generalize l[j]=x at*
    replace hsu:=Lib.hid hsu
    refine zR ?_
    refine At.roundA (k+1) (by omega) (by omega) (hs:=?_)
    rw [hk1,hsu.out]
    exact subP
  ·rw [bnd_no e1,if_neg (by decide),List.append_nil]at hsu
   rw [e1]at c3
   clear e1
   replace hsu:=Lib.hid hsu
   refine zR ?_
   refine At.roundA (k+1) (by omega) (by omega) (hs:=?_)
   rw [hk1,hsu.out]
   exact subP
 ·have hke:k=99:=by omega
  subst hke
  refine zR ?_
  refine At.retA (by rw [Tryz.results162]) (he:=rfl)
end
end Go.Proofs.YtfgkfcfplodaoaaGreatDoor
