/-
  Put together out of 5 texts.
-/
import Derived.Test.YtfgkfcfplodaoaaGreatDoorK10
import Derived.Test.YtfgkfcfplodaoaaGreatDoorK3
import Derived.Test.YtfgkfcfplodaoaaGreatDoorG20
import Derived.Test.YtfgkfcfplodaoaaGreatDoorG14
import Derived.Test.YtfgkfcfplodaoaaGreatDoorK9
import Derived.Test.YtfgkfcfplodaoaaGreatDoorG21
import Derived.Test.YtfgkfcfplodaoaaGreatDoorK6
import Derived.Test.YtfgkfcfplodaoaaGreatDoorG22
set_option linter.unusedSimpArgs false
set_option linter.unusedVariables false
set_option maxRecDepth 100000
set_option maxHeartbeats 16000000
namespace Go.Proofs.YtfgkfcfplodaoaaGreatDoor
open Go Go.RowKit
section
theorem spK_next (s:ByteArray)(c k:Nat):spK s c (k+1)=spF s c (spK s c k) k:=by
 unfold spK
 rw [List.range_succ,List.foldl_append]
 rfl
theorem spK_small (s:ByteArray)(c:Nat):∀k,(spK s c k).1.length≤k∧∀x∈(spK s c k).1,x.size≤s.size
 |0=>⟨Nat.le_refl _,fun x h=>by cases h⟩
 |k+1=>by
  obtain⟨h1,h2⟩:=spK_small s c k
  rw [spK_next]
  unfold spF
  split
  ·refine⟨by rw [List.length_append];exact Nat.succ_le_succ h1,fun x hx=>?_⟩
   rcases List.mem_append.1 hx with hx|hx
   ·exact h2 x hx
   ·rw [List.mem_singleton.1 hx,ByteArray.size_extract]
    omega
  ·exact⟨by omega,h2⟩
theorem splitS_small (s:ByteArray)(c:Nat):(0<(splitS s c).length∧(splitS s c).length≤s.size+1)∧∀x∈splitS s c,x.size≤s.size:=by
 obtain⟨h1,h2⟩:=spK_small s c s.size
 unfold splitS
 refine⟨⟨by rw [List.length_append];exact Nat.lt_add_left _ (by simp),by rw [List.length_append];exact Nat.succ_le_succ h1⟩,fun x hx=>?_⟩
 rcases List.mem_append.1 hx with hx|hx
 ·exact h2 x hx
 ·rw [List.mem_singleton.1 hx,ByteArray.size_extract]
  omega
end
section
def hexT:ByteArray:={data:= #[48,49,50,51,52,53,54,55,56,57,97,98,99,100,101,102]}
def hexK (s:ByteArray)(k:Nat):List Nat:=(List.range k).flatMap fun i=>[byteN hexT (byteN s i/16),byteN hexT (byteN s i%16)]
def hexS (s:ByteArray):ByteArray:=bsS (hexK s s.size)
theorem hexK_succ (s:ByteArray)(k:Nat):hexK s (k+1)=hexK s k++[byteN hexT (byteN s k/16),byteN hexT (byteN s k%16)]:=by
 unfold hexK
 rw [List.range_succ,List.flatMap_append]
 simp
theorem hexK_len (s:ByteArray):∀k,(hexK s k).length=2*k
 |0=>rfl
 |k+1=>by
  rw [hexK_succ,List.length_append,hexK_len s k]
  rfl
noncomputable def mHex:=mdl (fun s:ByteArray=>s.size≤1048576) (fun s=>[aS s]) (fun s=>rS (hexS s))
theorem mHex_eq (s:ByteArray)(h:s.size≤1048576):mHex [aS s]=some (rS (hexS s)):=mdl_eq (by intro a b h;simpa using h) s h
theorem cU8_app2 (l:List Nat)(x y:Nat):rowsF cU8 l++[[.sc (.int .u8 (x:Int))],[.sc (.int .u8 (y:Int))]]=rowsF cU8 (l++[x,y]):=by rw [←rowsF_app];rfl
noncomputable def mDigit:=mdl (fun n:Nat=>n<16) (fun n=>[aI (n:Int)]) (fun n=>.comp false [.ro (.sc (.int .u8 ((byteN hexT n:Nat):Int)))])
theorem mDigit_eq (n:Nat)(h:n<16):mDigit [aI (n:Int)]=some (.comp false [.ro (.sc (.int .u8 ((byteN hexT n:Nat):Int)))]):=mdl_eq (enc:=fun n:Nat=>[aI (n:Int)]) (by
 intro a b h
 simp at h
 omega) n h
theorem digit_s:Sound Tryz.prog 49 mDigit:=by
 refine Sound.mdl Tryz.func49 rfl Tryz.ntmps49 ?_
 rintro n w hn
 refine⟨by simp,?_⟩
 replace hn:n<16:=hn
 have hΓ:=eN
 have ib:=byte_at (s:=hexT) (i:=n) (show n<16 from hn)
 have hN:=byteN_eq hexT
 have bl:=byteN_lt hexT n
 have hT:({data:= #[48,49,50,51,52,53,54,55,56,57,97,98,99,100,101,102]}:ByteArray)=hexT:=rfl
 have hz:hexT.size=16:=rfl
 refine zI ?_
 rw [hT]
 generalize hexT=T at*
 refine zR ?_
 refine At.retA (by rw [Tryz.results49]) (he:=rfl)
theorem hexS_s:Sound Tryz.prog 12 mHex:=by
 refine Sound.mdl Tryz.func12 rfl Tryz.ntmps12 ?_
 rintro s w hs
 refine⟨by simp,?_⟩
 replace hs:s.size≤1048576:=hs
 have hΓ:=env_cons (hsO Tryz.func49) digit_s env_nil
 have hv:hexS s=bsS (hexK s s.size):=rfl
 have hN:=byteN_eq s
 replace hv:=Lib.hid hv
 refine zJ ?_
 refine W.loopA (fun k=>k≤s.size) (fun k:Nat=>[.slot 0 (one (.sc (.string s))),.slot 3 (one (.all 5)),.blk 5 (.arr .ft 5 1 (rowsF cU8 (hexK s k))),.slot 4 (vI k)]) (fun k=>s.size-k) 0 (Nat.zero_le _) (h:=?_)
 rintro k hk
 have hkl:(hexK s k).length≤2097152:=by rw [hexK_len];omega
 by_cases hlt:k<s.size
 ·have ib:=byte_at hlt
  have bl:=byteN_lt s k
  have c1:=mDigit_eq (byteN s k/16) (by omega)
  have c2:=mDigit_eq (byteN s k%16) (by omega)
  have e1:((byteN s k:Nat):Int).tdiv 16=((byteN s k/16:Nat):Int):=rfl
  have e2:((byteN s k:Nat):Int).tmod 16=((byteN s k%16:Nat):Int):=rfl
  have happ:=cU8_app2 (hexK s k) (byteN hexT (byteN s k/16)) (byteN hexT (byteN s k%16))
  rw [←hexK_succ]at happ
  generalize byteN hexT (byteN s k/16)=x at*
  generalize byteN hexT (byteN s k%16)=y at*
  refine zR ?_
  refine W.drawB hΓ 14 [[],[],[],[1,2],[1,2,3],[1,2,3,4],[1,2,3,4,5],[],[],[7,8],[7,8,9],[7,8,9,10],[1,2,3,4,5,6,7,8,9,10,11],[1,2,3,4,5,6,7,8,9,10,11,12],[0,1,2,3,4,5,6,7,8,9,10,11,12,13],[0,1,2,3,4,5,6,7,8,9,10,11,12,13,14]] (Es:=?Es9) (rest:=?rest9) (st1:=?st19) ?_
  refine zQ ?_
  exact At.roundA (k+1) (by omega) (by omega)
 ·have hke:k=s.size:=by omega
  subst hke
  have hb:=bytes_rows (hexK s s.size)
  refine zR ?_
  refine At.retA (by rw [Tryz.results12]) (he:=?_)
  rw [hv.out]
  rfl
noncomputable def numsB (l:List ByteArray):Bool:=l.all fun x=>(readZ x).2
noncomputable def numsL (l:List ByteArray):List Int:=l.map fun x=>(readZ x).1
abbrev okW (l:List ByteArray):Prop:=l.length≤1048576∧∀x∈l,x.size≤1048576
noncomputable def mNums:=mdl okW (fun l=>[aL cStr l]) (fun l=>if numsB l=true then .tup [(false,[.own .ft 3 1 (rowsF cInt (numsL l))]),rSc (.bool true)]else .tup [(false,[.ro (.sl [])]),rSc (.bool false)])
theorem mNums_eq (l:List ByteArray)(h:okW l):mNums [aL cStr l]=some (if numsB l=true then .tup [(false,[.own .ft 3 1 (rowsF cInt (numsL l))]),rSc (.bool true)]else .tup [(false,[.ro (.sl [])]),rSc (.bool false)]):=mdl_eq (enc:=fun l=>[aL cStr l]) (by intro a b h;simpa using h) l h
theorem cStr_rowN (l:List ByteArray)(k:Nat)(h:k<l.length):(rowsF cStr l)[k]?=some [.sc (.string l[k])]:=rowsF_get cStr l k h
theorem nums_s:Sound Tryz.prog 102 mNums:=by
 refine Sound.mdl Tryz.func102 rfl Tryz.ntmps102 ?_
 rintro l w ⟨hl,hx⟩
 refine⟨by simp,?_⟩
 have hΓ:=env_cons (hsO Tryz.func99) readI_s env_nil
 have hlen:=rowsF_len cStr l
 have hnil:rowsF cInt []=[]:=rfl
 refine zJ ?_
 refine W.loopA (fun k=>k≤l.length∧numsB (l.take k)=true) (fun k:Nat=>[.slot 10 (vL cStr l),.slot 11 (vI l.length),.slot 12 (vI k),.slot 4 (one (.all 9)),.blk 9 (.arr .ft 3 1 (rowsF cInt (numsL (l.take k))))]) (fun k=>l.length-k) 0 ⟨Nat.zero_le _,rfl⟩ (h:=?_)
 rintro k ⟨hk,hI⟩
 have hnl:(numsL (l.take k)).length≤1048576:=by unfold numsL;rw [List.length_map,List.length_take];omega
 by_cases hlt:k<l.length
 ·have hrow:=cStr_rowN l k hlt
  have hsx:=hx l[k] (List.getElem_mem hlt)
  have c1:=mRead_eq l[k] (by omega)
  have hB:numsB (l.take (k+1))=(numsB (l.take k)&&(readZ l[k]).2):=by
   unfold numsB
   rw [List.take_succ_eq_append_getElem hlt,List.all_append]
   simp
  have hL:numsL (l.take (k+1))=numsL (l.take k)++[(readZ l[k]).1]:=by
   unfold numsL
   rw [List.take_succ_eq_append_getElem hlt,List.map_append]
   rfl
  have happ:=cInt_app (numsL (l.take k)) (readZ l[k]).1
  rw [←hL]at happ
  have hbad:(readZ l[k]).2=false→numsB l=false:=fun h=>by
   unfold numsB
   rw [List.all_eq_false]
   exact⟨l[k],List.getElem_mem hlt,by rw [h];simp⟩
  rw [hI,Bool.true_and]at hB
  clear hL hI
  generalize hL1:numsL (l.take (k+1))=L1 at*
  generalize numsL (l.take k)=L0 at*
  replace hL1:=Lib.hid hL1
  generalize readZ l[k]=r at*
  generalize l[k]=x at*
  obtain⟨v,b⟩:=r
  dsimp only at*
  cases b with
  |true=>
   clear hbad
   replace hB:=Lib.hid hB
   refine zR ?_
   refine At.roundA (k+1) ⟨by omega,hB.out⟩ (by omega) (hs:=?_)
   rw [hL1.out]
   exact subP
  |false=>
   have hb:=Lib.hid (hbad rfl)
   clear hbad hB happ
   refine zR ?_
   refine At.retA (by rw [Tryz.results102]) (he:=?_)
   show _=if numsB l=true then _ else _
   rw [if_neg (by rw [hb.out];simp)]
 ·have hke:k=l.length:=by omega
  have ht:l.take k=l:=List.take_of_length_le (by omega)
  rw [ht]at hI⊢
  replace hI:=Lib.hid hI
  clear ht hnl
  refine zR ?_
  refine At.retA (by rw [Tryz.results102]) (he:=?_)
  show _=if numsB l=true then _ else _
  rw [if_pos hI.out]
end
section
theorem hexI_s:Sound Tryz.prog 141 mHex:=by
 refine Sound.mdl Tryz.func141 rfl Tryz.ntmps141 ?_
 rintro s w hs
 refine⟨by simp,?_⟩
 replace hs:s.size≤1048576:=hs
 have hΓ:=eN
 have hv:hexS s=bsS (hexK s s.size):=rfl
 have hN:=byteN_eq s
 have hT:({data:= #[48,49,50,51,52,53,54,55,56,57,97,98,99,100,101,102]}:ByteArray)=hexT:=rfl
 replace hv:=Lib.hid hv
 refine zI ?_
 rw [hT]
 clear hT
 have hc:(2:Int)*(s.size:Int)=((2*s.size:Nat):Int):=by omega
 refine zV ?_
 refine WL.opMk0 (e:=5) (s:=1) (by_:=1) (m:=2*s.size) (z:=.int .u8 0) (hel:=?m1) (hs:=?m2) (hb:=?m3) (hz:=?m4) rfl (by omega) (by omega) (h0:=?m5) (h1:=?m6) (by decide) ?_
 case m1=>simp only [TY]
 case m2=>simp only [TY]
 case m3=>simp only [TY]
 case m4=>simp only [TY]
 case m5=>rfl
 case m6=>
  rw [←hc]
  exact evsP
 clear hc
 refine zQ ?_
 refine W.loopA (fun k=>k≤s.size) (fun k:Nat=>[.slot 0 (one (.sc (.string s))),.slot 3 (one (.all 8)),.blk 8 (.arr .ft 5 1 (rowsF cU8 (hexK s k))),.slot 4 (vI k)]) (fun k=>s.size-k) 0 (Nat.zero_le _) (h:=?_)
 rintro k hk
 have hkl:(hexK s k).length≤2097152:=by rw [hexK_len];omega
 by_cases hlt:k<s.size
 ·have ib:=byte_at hlt
  have bl:=byteN_lt s k
  have hN2:=byteN_eq hexT
  have i1:=byte_at (s:=hexT) (i:=byteN s k/16) (show _<16 by omega)
  have i2:=byte_at (s:=hexT) (i:=byteN s k%16) (show _<16 by omega)
  have happ:=cU8_app2 (hexK s k) (byteN hexT (byteN s k/16)) (byteN hexT (byteN s k%16))
  rw [←hexK_succ]at happ
  have hz:hexT.size=16:=rfl
  have s1:((byteN s k:Nat):Int).fdiv (2^min 4 IntKind.u8.bits)=((byteN s k/16:Nat):Int):=by
   rw [show(2:Int)^min 4 IntKind.u8.bits=16 from rfl,Int.fdiv_eq_ediv_of_nonneg _ (by omega)]
   omega
  have s2:bits .and .u8 ((byteN s k:Nat):Int) 15=((byteN s k%16:Nat):Int):=by
   show IntKind.u8.wrap ((BitVec.ofInt 8 ((byteN s k:Nat):Int)&&&BitVec.ofInt 8 15).toNat:Int)=_
   have h1:(BitVec.ofInt 8 15).toNat=2^4-1:=rfl
   rw [BitVec.toNat_and,ofInt_nat (by omega),h1,Nat.and_two_pow_sub_one_eq_mod]
   exact wrap_u8n (by omega)
  generalize hexT=T at*
  refine zR ?_
  refine W.drawB hΓ 12 [[],[],[],[1,2],[1,2,3],[1,2,3,4],[],[],[6,7],[6,7,8],[6,7,8,9],[1,2,3,4,5,6,7,8,9,10],[0,1,2,3,4,5,6,7,8,9,10,11],[0,1,2,3,4,5,6,7,8,9,10,11,12]] (Es:=?Es9) (rest:=?rest9) (st1:=?st19) ?_
  refine zQ ?_
  exact At.roundA (k+1) (by omega) (by omega)
 ·have hke:k=s.size:=by omega
  subst hke
  have hb:=bytes_rows (hexK s s.size)
  refine zR ?_
  refine At.retA (by rw [Tryz.results141]) (he:=?_)
  rw [hv.out]
  rfl
end
section
def stB (p:TBlock):TChS:=(p.2.2.1,p.1.2.1,headId p.1)
abbrev TBo:=ByteArray×Nat×TBlock
abbrev okBo (x:TBo):Prop:=x.1.size≤1048576∧x.2.1<12∧okBkS x.2.2∧CnOk x.1 x.2.1 (stB x.2.2)
abbrev aBo (x:TBo):List Arg:=[aS x.1,aI ((x.2.1+1:Nat):Int),aBk x.2.2]
theorem aBo_inj:∀x y,aBo x=aBo y→x=y:=by
 rintro⟨s,k,p⟩ ⟨s',k',p'⟩ h
 have h1:aS s=aS s':=by injection h
 have h2:aI ((k+1:Nat):Int)=aI ((k'+1:Nat):Int):=by injection h with _ h;injection h
 have h3:[aBk p]=[aBk p']:=by injection h with _ h;injection h
 have h4:s=s':=by simpa using h1
 have h5:((k+1:Nat):Int)=((k'+1:Nat):Int):=by
  injection h2 with _ h2
  injection h2 with h2 _
  injection h2 with h2
  injection h2
 rw [h4,aBk_inj _ _ h3,show k=k' by omega]
noncomputable def mBlkOf:=mdl okBo aBo (fun x=>rBk (cnBlk x.1 x.2.1 (stB x.2.2)))
theorem mBlkOf_eq (s:ByteArray)(k:Nat)(p:TBlock)(h:okBo (s,k,p)):mBlkOf [aS s,aI ((k+1:Nat):Int),aBk p]=some (rBk (cnBlk s k (stB p))):=mdl_eq aBo_inj (s,k,p) h
def asEvBkOf0:List (List Nat):=[[],[0],[0,1],[],[3],[],[5],[],[7],[5,6,7,8],[3,4,5,6,7,8,9],[3,4,5,6,7,8,9,10],[0,1,2,3,4,5,6,7,8,9,10,11],[0,1,2,3,4,5,6,7,8,9,10,11,12],[0,1,2,3,4,5,6,7,8,9,10,11,12,13],[0,1,2,3,4,5,6,7,8,9,10,11,12,13,14]]
def asEvBkOf1:List (List Nat):=[[],[],[1],[1,2],[1,2,3],[],[5],[5,6],[5,6,7],[1,2,3,4,5,6,7,8],[],[10],[10,11],[],[13],[10,11,12,13,14],[],[16],[10,11,12,13,14,15,16,17],[],[19],[19,20],[10,11,12,13,14,15,16,17,18,19,20,21],[0,1,2,3,4,5,6,7,8,9,10,11,12,13,14,15,16,17,18,19,20,21,22],[0,1,2,3,4,5,6,7,8,9,10,11,12,13,14,15,16,17,18,19,20,21,22,23],[0,1,2,3,4,5,6,7,8,9,10,11,12,13,14,15,16,17,18,19,20,21,22,23,24]]
def asEvBkOf2:List (List Nat):=[[],[0],[],[2],[2,3],[2,3,4],[2,3,4,5],[],[7],[7,8],[7,8,9],[2,3,4,5,6,7,8,9,10],[2,3,4,5,6,7,8,9,10,11],[0,1,2,3,4,5,6,7,8,9,10,11,12],[0,1,2,3,4,5,6,7,8,9,10,11,12,13],[0,1,2,3,4,5,6,7,8,9,10,11,12,13,14],[0,1,2,3,4,5,6,7,8,9,10,11,12,13,14],[0,1,2,3,4,5,6,7,8,9,10,11,12,13,14,15],[0,1,2,3,4,5,6,7,8,9,10,11,12,13,14,15,17]]
def asEvBkOf3:List (List Nat):=[[],[0],[],[2],[],[],[4,5],[4,5,6],[4,5,6,7],[4,5,6,7,8],[2,3,4,5,6,7,8,9],[2,3,4,5,6,7,8,9,10],[0,1,2,3,4,5,6,7,8,9,10,11],[0,1,2,3,4,5,6,7,8,9,10,11,12],[0,1,2,3,4,5,6,7,8,9,10,11,12,13]]
theorem blkOf_s:Sound Tryz.prog 140 mBlkOf:=by
 refine Sound.mdl Tryz.func140 rfl Tryz.ntmps140 ?_
 rintro⟨s,k,⟨⟨ph,pt,pla,pva,pne,pda⟩,pb1,pb2,⟨pch,pcr,pci,pcs⟩⟩⟩ w ⟨hs,hk,⟨hb1,hb2,hb3⟩,hok⟩
 refine⟨by simp,?_⟩
 replace hs:s.size≤1048576:=hs
 replace hk:k<12:=hk
 dsimp only at hb1 hb2 hb3 hok
 have hΓ:=env_cons (hsO Tryz.func101) decZI_s (env_cons (hsO Tryz.func180) shaImpl_s (env_cons (hsO Tryz.func181) chVI_s (env_cons (hsO Tryz.func166) vhashI_s (env_cons (hsO Tryz.func70) copyV_s (env_cons (hsO Tryz.func144) headIdI_s (env_cons (hsO Tryz.func183) digI_s (env_cons (hsO Tryz.func182) signI_s env_nil)))))))
 have c1:=mDecZ_eq ((k+1:Nat):Int) ⟨by omega,by omega⟩
 have hdl:=(decZ_len ((k+1:Nat):Int)).2
 have c2:=mSha_eq (s++bsS (decZ ((k+1:Nat):Int))) (by rw [ByteArray.size_append,bsS_size'];omega)
 have hsh:shaS (s++bsS (decZ ((k+1:Nat):Int)))=shaH s (k+1):=rfl
 rw [hsh]at c2
 clear hsh
 have hcs:(s++bsS (decZ ((k+1:Nat):Int))).size≤16777216:=by rw [ByteArray.size_append,bsS_size'];omega
 have h32:(shaH s (k+1)).size=32:=shaS_size _
 have hbs:(bsS (decZ ((k+1:Nat):Int))).size≤11:=by rw [bsS_size'];exact hdl
 have c0:=mCopyV_eq pb2 hb2
 have hlp:=rowsF_len cVal pb2
 have v7:=hok.vals.1
 have n7:(cnNext s k (stB ((ph,pt,pla,pva,pne,pda),pb1,pb2,(pch,pcr,pci,pcs)))).length≤7:=hok.next.1.2
 have t0:0≤pt:=hok.t0
 have t1:pt≤5*k:=hok.t1
 have cH:=mHeadId_eq (ph,pt,pla,pva,pne,pda)
 have hres:cnBlk s k (stB ((ph,pt,pla,pva,pne,pda),pb1,pb2,(pch,pcr,pci,pcs)))=((((k+1:Nat):Int),pt+1+((byteN (shaH s (k+1)) 6:Nat):Int).tmod 5,headId (ph,pt,pla,pva,pne,pda),vhash (cnVals s k (stB ((ph,pt,pla,pva,pne,pda),pb1,pb2,(pch,pcr,pci,pcs)))),vhash (cnNext s k (stB ((ph,pt,pla,pva,pne,pda),pb1,pb2,(pch,pcr,pci,pcs)))),bsS (decZ ((byteN (shaH s (k+1)) 7:Nat):Int))),cnVals s k (stB ((ph,pt,pla,pva,pne,pda),pb1,pb2,(pch,pcr,pci,pcs))),cnNext s k (stB ((ph,pt,pla,pva,pne,pda),pb1,pb2,(pch,pcr,pci,pcs))),cmFor (((k+1:Nat):Int),pt+1+((byteN (shaH s (k+1)) 6:Nat):Int).tmod 5,headId (ph,pt,pla,pva,pne,pda),vhash (cnVals s k (stB ((ph,pt,pla,pva,pne,pda),pb1,pb2,(pch,pcr,pci,pcs)))),vhash (cnNext s k (stB ((ph,pt,pla,pva,pne,pda),pb1,pb2,(pch,pcr,pci,pcs)))),bsS (decZ ((byteN (shaH s (k+1)) 7:Nat):Int))) 0 (idsV (cnVals s k (stB ((ph,pt,pla,pva,pne,pda),pb1,pb2,(pch,pcr,pci,pcs)))))):=rfl
 have hnx:cnNext s k (stB ((ph,pt,pla,pva,pne,pda),pb1,pb2,(pch,pcr,pci,pcs)))=(chV (cnVals s k (stB ((ph,pt,pla,pva,pne,pda),pb1,pb2,(pch,pcr,pci,pcs)))) (1+((byteN (shaH s (k+1)) 4:Nat):Int).tmod 6,((byteN (shaH s (k+1)) 5:Nat):Int).tmod 4)).1:=rfl
 have hcv:cnVals s k (stB ((ph,pt,pla,pva,pne,pda),pb1,pb2,(pch,pcr,pci,pcs)))=if k=0 then vals0 (shaH s 1) 4 else pb2:=rfl
 rw [hnx]at n7 hres
 clear hnx hok
 dsimp only [aHd]at cH
 generalize headId (ph,pt,pla,pva,pne,pda)=lid at*
 by_cases hk0:k=0
 ·subst hk0
  simp only [Nat.zero_add]at*
  rw [if_pos trivial]at hcv
  rw [hcv]at n7 hres v7
  clear hcv
  have hvl:=vals0_len (shaH s 1) 4
  have hN:=byteN_eq (shaH s 1)
  obtain⟨J,hJ0,hJs⟩:=twoC (α:=St) [.slot 1 (vI ((1:Nat):Int)),.slot 5 (one (.ptr 5 0)),.blk 5 (.box [.sc (.int .i64 ph),.sc (.int .i64 pt),.sc (.string pla),.sc (.string pva),.sc (.string pne),.sc (.string pda),.sl (rowsF cVal pb1),.sl (rowsF cVal pb2),.sc (.int .i64 pch),.sc (.int .i64 pcr),.sc (.string pci),.sl (rowsF cCSig pcs)]),.slot 6 (one (.ptr 6 0)),.blk 6 (.box [.sc (.int .i64 0),.sc (.int .i64 0),.sc (.string ByteArray.empty),.sc (.string ByteArray.empty),.sc (.string ByteArray.empty),.sc (.string ByteArray.empty),.nil,.nil,.sc (.int .i64 0),.sc (.int .i64 0),.sc (.string ByteArray.empty),.nil]),.slot 7 (one (.sc (.string (shaH s 1)))),.slot 8 (one (.ptr 8 0)),.blk 8 (.box [.sc (.int .i64 0),.sc (.int .i64 0),.sc (.string ByteArray.empty),.sc (.string ByteArray.empty),.sc (.string ByteArray.empty),.sc (.string ByteArray.empty),.nil,.nil,.sc (.int .i64 0),.sc (.int .i64 0),.sc (.string ByteArray.empty),.nil]),.slot 25 (vI ((0:Nat):Int))] (fun j=>[.slot 1 (vI ((1:Nat):Int)),.slot 5 (one (.ptr 5 0)),.blk 5 (.box [.sc (.int .i64 ph),.sc (.int .i64 pt),.sc (.string pla),.sc (.string pva),.sc (.string pne),.sc (.string pda),.sl (rowsF cVal pb1),.sl (rowsF cVal pb2),.sc (.int .i64 pch),.sc (.int .i64 pcr),.sc (.string pci),.sl (rowsF cCSig pcs)]),.slot 6 (one (.ptr 6 0)),.blk 6 (.box [.sc (.int .i64 0),.sc (.int .i64 0),.sc (.string ByteArray.empty),.sc (.string ByteArray.empty),.sc (.string ByteArray.empty),.sc (.string ByteArray.empty),.nil,.nil,.sc (.int .i64 0),.sc (.int .i64 0),.sc (.string ByteArray.empty),.nil]),.slot 7 (one (.sc (.string (shaH s 1)))),.slot 8 (one (.ptr 8 0)),.blk 8 (.box [.sc (.int .i64 0),.sc (.int .i64 0),.sc (.string ByteArray.empty),.sc (.string ByteArray.empty),.sc (.string ByteArray.empty),.sc (.string ByteArray.empty),.all 40,.nil,.sc (.int .i64 0),.sc (.int .i64 0),.sc (.string ByteArray.empty),.nil]),.blk 40 (.arr .ft 76 2 (rowsF cVal (vals0 (shaH s 1) (j+1)))),.slot 25 (vI ((j+1:Nat):Int))])
  replace hres:=Lib.hid hres
  refine zJ ?_
  refine W.loopA (fun j=>j≤4) J (fun j=>4-j) 0 (Nat.zero_le _) (hs:=?_) (h:=?_)
  ·rw [hJ0]
   exact subP
  rintro j hj
  by_cases hj4:j<4
  ·have ib:=byte_at (s:=shaH s 1) (i:=j) (by omega)
   have bl:=byteN_lt (shaH s 1) j
   have tm:=tmod_in (a:=((byteN (shaH s 1) j:Nat):Int)) (m:=5) (by omega) (by omega)
   have e1:=cVal_app (vals0 (shaH s 1) j) ((j:Int)+1) (1+(bytZ (shaH s 1) j).tmod 5)
   rw [←vals0_next]at e1
   unfold bytZ at e1
   have hvj:=vals0_len (shaH s 1) j
   have hj1:=hJs j
   rcases Nat.eq_zero_or_pos j with rfl|hp0
   ·have hn1:rowsF cVal (vals0 (shaH s 1) 0)=[]:=rfl
    rw [hn1,List.nil_append]at e1
    replace e1:=Lib.hid e1
    rw [hJ0]
    clear hn1 v7 n7 c1 c2
    refine zR ?_
    refine W.drawB hΓ 12 asEvBkOf3 (Es:=?Es5) (rest:=?rest5) (st1:=?st15) ?_
    refine zQ ?_
    refine At.roundA (0+1) (by omega) (by omega) (hs:=?_)
    rw [hj1,←e1.out]
    exact subP
   ·obtain⟨i,rfl⟩:∃i,j=i+1:=⟨j-1,by omega⟩
    rw [hJs i]
    replace hj1:=Lib.hid hj1
    clear v7 n7 c1 c2
    refine zR ?_
    refine W.drawB hΓ 12 asEvBkOf3 (Es:=?Es8) (rest:=?rest8) (st1:=?st18) ?_
    refine zQ ?_
    refine At.roundA (i+1+1) (by omega) (by omega) (hs:=?_)
    rw [hj1.out]
    exact subP
  ·have hj4:j=3+1:=by omega
   rw [hj4,hJs 3]
   clear hj4 hj hJ0 hJs
   generalize hvv:vals0 (shaH s 1) (3+1)=vv at*
   have hlv:=rowsF_len cVal vv
   have c3:=mChV_eq vv (1+((byteN (shaH s 1) 4:Nat):Int).tmod 6,((byteN (shaH s 1) 5:Nat):Int).tmod 4) (by omega)
   have hrw:rowsF cVal [(1+((byteN (shaH s 1) 4:Nat):Int).tmod 6,((byteN (shaH s 1) 5:Nat):Int).tmod 4)]=[[.sc (.int .i64 (1+((byteN (shaH s 1) 4:Nat):Int).tmod 6)),.sc (.int .i64 (((byteN (shaH s 1) 5:Nat):Int).tmod 4))]]:=rfl
   dsimp only [aL]at c3
   rw [hrw]at c3
   generalize hx:chV vv (1+((byteN (shaH s 1) 4:Nat):Int).tmod 6,((byteN (shaH s 1) 5:Nat):Int).tmod 4)=nxp at*
   obtain⟨nx,nb⟩:=nxp
   dsimp only at n7 c3
   have hln:=rowsF_len cVal nx
   clear hx hrw
   generalize hbb:shaH s 1=b at*
   have i4:=byte_at (s:=b) (i:=4) (by omega)
   have i5:=byte_at (s:=b) (i:=5) (by omega)
   have i6:=byte_at (s:=b) (i:=6) (by omega)
   have i7:=byte_at (s:=b) (i:=7) (by omega)
   have hN:=byteN_eq b
   have l4:=byteN_lt b 4
   have l5:=byteN_lt b 5
   have l6:=byteN_lt b 6
   have l7:=byteN_lt b 7
   have m4:=tmod_in (a:=((byteN b 4:Nat):Int)) (m:=6) (by omega) (by omega)
   have m5:=tmod_in (a:=((byteN b 5:Nat):Int)) (m:=4) (by omega) (by omega)
   have m6:=tmod_in (a:=((byteN b 6:Nat):Int)) (m:=5) (by omega) (by omega)
   have c4:=mVHash_eq vv (by omega)
   have c5:=mVHash_eq nx (by omega)
   have c6:=mDecZ_eq ((byteN b 7:Nat):Int) ⟨by omega,by omega⟩
   have c8:=mHeadId_eq (((1:Nat):Int),pt+1+((byteN b 6:Nat):Int).tmod 5,lid,vhash vv,vhash nx,bsS (decZ ((byteN b 7:Nat):Int)))
   have hcm:cmFor (((1:Nat):Int),pt+1+((byteN b 6:Nat):Int).tmod 5,lid,vhash vv,vhash nx,bsS (decZ ((byteN b 7:Nat):Int))) 0 (idsV vv)=(((1:Nat):Int),0,headId (((1:Nat):Int),pt+1+((byteN b 6:Nat):Int).tmod 5,lid,vhash vv,vhash nx,bsS (decZ ((byteN b 7:Nat):Int))),vv.map fun v=>cmSig (((1:Nat):Int),pt+1+((byteN b 6:Nat):Int).tmod 5,lid,vhash vv,vhash nx,bsS (decZ ((byteN b 7:Nat):Int))) 0 v.1):=by
    unfold cmFor idsV
    rw [List.map_map]
    rfl
   have hsig:∀v,cmSig (((1:Nat):Int),pt+1+((byteN b 6:Nat):Int).tmod 5,lid,vhash vv,vhash nx,bsS (decZ ((byteN b 7:Nat):Int))) 0 v=(v,signS v (digS (((1:Nat):Int),0,2,headId (((1:Nat):Int),pt+1+((byteN b 6:Nat):Int).tmod 5,lid,vhash vv,vhash nx,bsS (decZ ((byteN b 7:Nat):Int))),v))):=fun v=>rfl
   replace hres:=hres.out
   rw [hcm]at hres
   dsimp only [aHd]at c8
   generalize cmSig (((1:Nat):Int),pt+1+((byteN b 6:Nat):Int).tmod 5,lid,vhash vv,vhash nx,bsS (decZ ((byteN b 7:Nat):Int))) 0=sg at*
   generalize headId (((1:Nat):Int),pt+1+((byteN b 6:Nat):Int).tmod 5,lid,vhash vv,vhash nx,bsS (decZ ((byteN b 7:Nat):Int)))=hid at*
   generalize vhash vv=h1 at*
   generalize vhash nx=h2 at*
   generalize bsS (decZ ((byteN b 7:Nat):Int))=da at*
   replace hres:=Lib.hid hres
   clear hcm
   refine zR ?_
   refine W.lateB hΓ 18 asEvBkOf2 [16] (rest:=?rest11) (Es:=?Es11) (st1:=?st111) (stA:=?stA11) (t:=?t11) (x:=?x11) (y:=?y11) (ty:=?ty11) (pos:=?pos11) (after:=?af11) (n:=?n11) (b:=?b11) ?_
   refine zQ ?_
   refine W.drawB hΓ 25 asEvBkOf1 (Es:=?Es13) (rest:=?rest13) (st1:=?st113) ?_
   refine zQ ?_
   clear i4 i5 i6 i7 hN m4 m5 c3 c4 c5 c6 c8 l4 l5 l7
   obtain⟨K,hK0,hKs⟩:=twoC (α:=St) [.slot 1 (vI ((1:Nat):Int)),.slot 6 (one (.ptr 6 0)),.blk 6 (.box [.sc (.int .i64 0),.sc (.int .i64 0),.sc (.string ByteArray.empty),.sc (.string ByteArray.empty),.sc (.string ByteArray.empty),.sc (.string ByteArray.empty),.nil,.nil,.sc (.int .i64 0),.sc (.int .i64 0),.sc (.string ByteArray.empty),.nil]),.slot 8 (one (.ptr 8 0)),.slot 93 (one (.all 40)),.slot 94 (vI vv.length),.blk 40 (.arr .ft 76 2 (rowsF cVal vv)),.blk 57 (.arr .ft 76 2 (rowsF cVal nx)),.blk 8 (.box [.sc (.int .i64 ((1:Nat):Int)),.sc (.int .i64 (pt+1+((byteN b 6:Nat):Int).tmod 5)),.sc (.string lid),.sc (.string h1),.sc (.string h2),.sc (.string da),.all 40,.all 57,.sc (.int .i64 ((1:Nat):Int)),.sc (.int .i64 0),.sc (.string hid),.nil]),.slot 95 (vI ((0:Nat):Int))] (fun j=>[.slot 1 (vI ((1:Nat):Int)),.slot 6 (one (.ptr 6 0)),.blk 6 (.box [.sc (.int .i64 0),.sc (.int .i64 0),.sc (.string ByteArray.empty),.sc (.string ByteArray.empty),.sc (.string ByteArray.empty),.sc (.string ByteArray.empty),.nil,.nil,.sc (.int .i64 0),.sc (.int .i64 0),.sc (.string ByteArray.empty),.nil]),.slot 8 (one (.ptr 8 0)),.slot 93 (one (.all 40)),.slot 94 (vI vv.length),.blk 40 (.arr .ft 76 2 (rowsF cVal vv)),.blk 57 (.arr .ft 76 2 (rowsF cVal nx)),.blk 8 (.box [.sc (.int .i64 ((1:Nat):Int)),.sc (.int .i64 (pt+1+((byteN b 6:Nat):Int).tmod 5)),.sc (.string lid),.sc (.string h1),.sc (.string h2),.sc (.string da),.all 40,.all 57,.sc (.int .i64 ((1:Nat):Int)),.sc (.int .i64 0),.sc (.string hid),.all 118]),.blk 118 (.arr .ft 127 2 (rowsF cCSig ((vv.take (j+1)).map fun v=>sg v.1))),.slot 95 (vI ((j+1:Nat):Int))])
   refine W.loopA (fun j=>j≤vv.length) K (fun j=>vv.length-j) 0 (Nat.zero_le _) (hs:=?_) (h:=?_)
   ·rw [hK0]
    exact subP
   rintro j hj
   have hsigv:∀v:Int,mSign [aI v,aS (digS (((1:Nat):Int),0,2,hid,v))]=some (rS (signS v (digS (((1:Nat):Int),0,2,hid,v)))):=fun v=>mSign_eq v _ (Nat.le_trans (digS_size _) (by omega))
   by_cases hlt:j<vv.length
   ·have hrow:(rowsF cVal vv)[j]?=some [.sc (.int .i64 vv[j].1),.sc (.int .i64 vv[j].2)]:=rowsF_get cVal vv j hlt
    have e1:=cCSig_app ((vv.take j).map fun v=>sg v.1) (sg vv[j].1)
    have e2:((vv.take j).map fun v=>sg v.1)++[sg vv[j].1]=(vv.take (j+1)).map fun v=>sg v.1:=by rw [List.take_succ_eq_append_getElem hlt,List.map_append];rfl
    rw [e2,hsig]at e1
    dsimp only at e1
    have hkl:((vv.take j).map fun v=>sg v.1).length≤1048576:=by rw [List.length_map,List.length_take];omega
    have d4:=hsigv vv[j].1
    have d3:=mDig_eq (((1:Nat):Int),0,2,hid,vv[j].1)
    dsimp only [aVt]at d3
    clear hsig e2 hsigv hres
    have hj1:=hKs j
    rcases Nat.eq_zero_or_pos j with rfl|hp0
    ·have hnil:rowsF cCSig ((vv.take 0).map fun v=>sg v.1)=[]:=rfl
     rw [hnil,List.nil_append]at e1
     replace e1:=Lib.hid e1
     generalize vv[0]=v at*
     obtain⟨i,q⟩:=v
     dsimp only at e1 d3 d4 hrow
     rw [hK0]
     clear hkl hnil
     refine zR ?_
     refine W.drawB hΓ 12 asEvBkOf0 (Es:=?Es16) (rest:=?rest16) (st1:=?st116) ?_
     refine zQ ?_
     refine At.roundA (0+1) (by omega) (by omega) (hs:=?_)
     rw [hj1,←e1.out]
     exact subP
    ·obtain⟨i,rfl⟩:∃i,j=i+1:=⟨j-1,by omega⟩
     rw [hKs i]
     generalize (vv.take (i+1)).map (fun v=>sg v.1)=L at*
     generalize vv[i+1]=v at*
     obtain⟨i',q⟩:=v
     dsimp only at e1 d3 d4 hrow
     replace hj1:=Lib.hid hj1
     refine zR ?_
     refine W.drawB hΓ 12 asEvBkOf0 (Es:=?Es19) (rest:=?rest19) (st1:=?st119) ?_
     refine zQ ?_
     refine At.roundA (i+1+1) (by omega) (by omega) (hs:=?_)
     rw [hj1.out]
     exact subP
   ·obtain⟨i,rfl⟩:∃i,j=i+1:=⟨j-1,by omega⟩
    have hv:((vv.take (i+1)).map fun v=>sg v.1)=vv.map fun v=>sg v.1:=by rw [List.take_of_length_le (by omega)]
    rw [hKs i,hv]
    clear hsig hsigv hv
    refine zR ?_
    refine At.retA (by rw [Tryz.results140]) (he:=?_)
    rw [hres.out]
 ·have hne:¬((k+1:Nat):Int)=1:=by omega
  rw [if_neg hk0]at hcv
  rw [hcv]at n7 hres v7
  clear hcv
  replace hres:=Lib.hid hres
  refine zI ?_
  generalize hvv:pb2=vv at*
  have hlv:=rowsF_len cVal vv
  have c3:=mChV_eq vv (1+((byteN (shaH s (k+1)) 4:Nat):Int).tmod 6,((byteN (shaH s (k+1)) 5:Nat):Int).tmod 4) (by omega)
  have hrw:rowsF cVal [(1+((byteN (shaH s (k+1)) 4:Nat):Int).tmod 6,((byteN (shaH s (k+1)) 5:Nat):Int).tmod 4)]=[[.sc (.int .i64 (1+((byteN (shaH s (k+1)) 4:Nat):Int).tmod 6)),.sc (.int .i64 (((byteN (shaH s (k+1)) 5:Nat):Int).tmod 4))]]:=rfl
  dsimp only [aL]at c3
  rw [hrw]at c3
  generalize hx:chV vv (1+((byteN (shaH s (k+1)) 4:Nat):Int).tmod 6,((byteN (shaH s (k+1)) 5:Nat):Int).tmod 4)=nxp at*
  obtain⟨nx,nb⟩:=nxp
  dsimp only at n7 c3
  have hln:=rowsF_len cVal nx
  clear hx hrw
  generalize hbb:shaH s (k+1)=b at*
  have i4:=byte_at (s:=b) (i:=4) (by omega)
  have i5:=byte_at (s:=b) (i:=5) (by omega)
  have i6:=byte_at (s:=b) (i:=6) (by omega)
  have i7:=byte_at (s:=b) (i:=7) (by omega)
  have hN:=byteN_eq b
  have l4:=byteN_lt b 4
  have l5:=byteN_lt b 5
  have l6:=byteN_lt b 6
  have l7:=byteN_lt b 7
  have m4:=tmod_in (a:=((byteN b 4:Nat):Int)) (m:=6) (by omega) (by omega)
  have m5:=tmod_in (a:=((byteN b 5:Nat):Int)) (m:=4) (by omega) (by omega)
  have m6:=tmod_in (a:=((byteN b 6:Nat):Int)) (m:=5) (by omega) (by omega)
  have c4:=mVHash_eq vv (by omega)
  have c5:=mVHash_eq nx (by omega)
  have c6:=mDecZ_eq ((byteN b 7:Nat):Int) ⟨by omega,by omega⟩
  have c8:=mHeadId_eq (((k+1:Nat):Int),pt+1+((byteN b 6:Nat):Int).tmod 5,lid,vhash vv,vhash nx,bsS (decZ ((byteN b 7:Nat):Int)))
  have hcm:cmFor (((k+1:Nat):Int),pt+1+((byteN b 6:Nat):Int).tmod 5,lid,vhash vv,vhash nx,bsS (decZ ((byteN b 7:Nat):Int))) 0 (idsV vv)=(((k+1:Nat):Int),0,headId (((k+1:Nat):Int),pt+1+((byteN b 6:Nat):Int).tmod 5,lid,vhash vv,vhash nx,bsS (decZ ((byteN b 7:Nat):Int))),vv.map fun v=>cmSig (((k+1:Nat):Int),pt+1+((byteN b 6:Nat):Int).tmod 5,lid,vhash vv,vhash nx,bsS (decZ ((byteN b 7:Nat):Int))) 0 v.1):=by
   unfold cmFor idsV
   rw [List.map_map]
   rfl
  have hsig:∀v,cmSig (((k+1:Nat):Int),pt+1+((byteN b 6:Nat):Int).tmod 5,lid,vhash vv,vhash nx,bsS (decZ ((byteN b 7:Nat):Int))) 0 v=(v,signS v (digS (((k+1:Nat):Int),0,2,headId (((k+1:Nat):Int),pt+1+((byteN b 6:Nat):Int).tmod 5,lid,vhash vv,vhash nx,bsS (decZ ((byteN b 7:Nat):Int))),v))):=fun v=>rfl
  replace hres:=hres.out
  rw [hcm]at hres
  dsimp only [aHd]at c8
  generalize cmSig (((k+1:Nat):Int),pt+1+((byteN b 6:Nat):Int).tmod 5,lid,vhash vv,vhash nx,bsS (decZ ((byteN b 7:Nat):Int))) 0=sg at*
  generalize headId (((k+1:Nat):Int),pt+1+((byteN b 6:Nat):Int).tmod 5,lid,vhash vv,vhash nx,bsS (decZ ((byteN b 7:Nat):Int)))=hid at*
  generalize vhash vv=h1 at*
  generalize vhash nx=h2 at*
  generalize bsS (decZ ((byteN b 7:Nat):Int))=da at*
  replace hres:=Lib.hid hres
  clear hcm
  refine zR ?_
  refine W.lateB hΓ 18 asEvBkOf2 [16] (rest:=?rest25) (Es:=?Es25) (st1:=?st125) (stA:=?stA25) (t:=?t25) (x:=?x25) (y:=?y25) (ty:=?ty25) (pos:=?pos25) (after:=?af25) (n:=?n25) (b:=?b25) ?_
  refine zQ ?_
  refine W.drawB hΓ 25 asEvBkOf1 (Es:=?Es27) (rest:=?rest27) (st1:=?st127) ?_
  refine zQ ?_
  clear i4 i5 i6 i7 hN m4 m5 c3 c4 c5 c6 c8 l4 l5 l7
  obtain⟨K,hK0,hKs⟩:=twoC (α:=St) [.slot 1 (vI ((k+1:Nat):Int)),.slot 6 (one (.ptr 6 0)),.blk 6 (.box [.sc (.int .i64 0),.sc (.int .i64 0),.sc (.string ByteArray.empty),.sc (.string ByteArray.empty),.sc (.string ByteArray.empty),.sc (.string ByteArray.empty),.nil,.nil,.sc (.int .i64 0),.sc (.int .i64 0),.sc (.string ByteArray.empty),.nil]),.slot 8 (one (.ptr 8 0)),.slot 93 (one (.all 20)),.slot 94 (vI vv.length),.blk 20 (.arr .ft 76 2 (rowsF cVal vv)),.blk 57 (.arr .ft 76 2 (rowsF cVal nx)),.blk 8 (.box [.sc (.int .i64 ((k+1:Nat):Int)),.sc (.int .i64 (pt+1+((byteN b 6:Nat):Int).tmod 5)),.sc (.string lid),.sc (.string h1),.sc (.string h2),.sc (.string da),.all 20,.all 57,.sc (.int .i64 ((k+1:Nat):Int)),.sc (.int .i64 0),.sc (.string hid),.nil]),.slot 95 (vI ((0:Nat):Int))] (fun j=>[.slot 1 (vI ((k+1:Nat):Int)),.slot 6 (one (.ptr 6 0)),.blk 6 (.box [.sc (.int .i64 0),.sc (.int .i64 0),.sc (.string ByteArray.empty),.sc (.string ByteArray.empty),.sc (.string ByteArray.empty),.sc (.string ByteArray.empty),.nil,.nil,.sc (.int .i64 0),.sc (.int .i64 0),.sc (.string ByteArray.empty),.nil]),.slot 8 (one (.ptr 8 0)),.slot 93 (one (.all 20)),.slot 94 (vI vv.length),.blk 20 (.arr .ft 76 2 (rowsF cVal vv)),.blk 57 (.arr .ft 76 2 (rowsF cVal nx)),.blk 8 (.box [.sc (.int .i64 ((k+1:Nat):Int)),.sc (.int .i64 (pt+1+((byteN b 6:Nat):Int).tmod 5)),.sc (.string lid),.sc (.string h1),.sc (.string h2),.sc (.string da),.all 20,.all 57,.sc (.int .i64 ((k+1:Nat):Int)),.sc (.int .i64 0),.sc (.string hid),.all 118]),.blk 118 (.arr .ft 127 2 (rowsF cCSig ((vv.take (j+1)).map fun v=>sg v.1))),.slot 95 (vI ((j+1:Nat):Int))])
  refine W.loopA (fun j=>j≤vv.length) K (fun j=>vv.length-j) 0 (Nat.zero_le _) (hs:=?_) (h:=?_)
  ·rw [hK0]
   exact subP
  rintro j hj
  have hsigv:∀v:Int,mSign [aI v,aS (digS (((k+1:Nat):Int),0,2,hid,v))]=some (rS (signS v (digS (((k+1:Nat):Int),0,2,hid,v)))):=fun v=>mSign_eq v _ (Nat.le_trans (digS_size _) (by omega))
  by_cases hlt:j<vv.length
  ·have hrow:(rowsF cVal vv)[j]?=some [.sc (.int .i64 vv[j].1),.sc (.int .i64 vv[j].2)]:=rowsF_get cVal vv j hlt
   have e1:=cCSig_app ((vv.take j).map fun v=>sg v.1) (sg vv[j].1)
   have e2:((vv.take j).map fun v=>sg v.1)++[sg vv[j].1]=(vv.take (j+1)).map fun v=>sg v.1:=by rw [List.take_succ_eq_append_getElem hlt,List.map_append];rfl
   rw [e2,hsig]at e1
   dsimp only at e1
   have hkl:((vv.take j).map fun v=>sg v.1).length≤1048576:=by rw [List.length_map,List.length_take];omega
   have d4:=hsigv vv[j].1
   have d3:=mDig_eq (((k+1:Nat):Int),0,2,hid,vv[j].1)
   dsimp only [aVt]at d3
   clear hsig e2 hsigv hres
   have hj1:=hKs j
   rcases Nat.eq_zero_or_pos j with rfl|hp0
   ·have hnil:rowsF cCSig ((vv.take 0).map fun v=>sg v.1)=[]:=rfl
    rw [hnil,List.nil_append]at e1
    replace e1:=Lib.hid e1
    generalize vv[0]=v at*
    obtain⟨i,q⟩:=v
    dsimp only at e1 d3 d4 hrow
    rw [hK0]
    clear hkl hnil
    refine zR ?_
    refine W.drawB hΓ 12 asEvBkOf0 (Es:=?Es30) (rest:=?rest30) (st1:=?st130) ?_
    refine zQ ?_
    refine At.roundA (0+1) (by omega) (by omega) (hs:=?_)
    rw [hj1,←e1.out]
    exact subP
   ·obtain⟨i,rfl⟩:∃i,j=i+1:=⟨j-1,by omega⟩
    rw [hKs i]
    generalize (vv.take (i+1)).map (fun v=>sg v.1)=L at*
    generalize vv[i+1]=v at*
    obtain⟨i',q⟩:=v
    dsimp only at e1 d3 d4 hrow
    replace hj1:=Lib.hid hj1
    refine zR ?_
    refine W.drawB hΓ 12 asEvBkOf0 (Es:=?Es33) (rest:=?rest33) (st1:=?st133) ?_
    refine zQ ?_
    refine At.roundA (i+1+1) (by omega) (by omega) (hs:=?_)
    rw [hj1.out]
    exact subP
  ·obtain⟨i,rfl⟩:∃i,j=i+1:=⟨j-1,by omega⟩
   have hv:((vv.take (i+1)).map fun v=>sg v.1)=vv.map fun v=>sg v.1:=by rw [List.take_of_length_le (by omega)]
   rw [hKs i,hv]
   clear hsig hsigv hv
   refine zR ?_
   refine At.retA (by rw [Tryz.results140]) (he:=?_)
   rw [hres.out]
end
section
theorem stB_cn (s:ByteArray)(k:Nat):stB (cnB s k)=cnS s (k+1):=rfl
theorem headId_zero:headId zHd=ByteArray.empty:=headId_no fun h=>by
 have:=h.1.1
 exact absurd this (by decide)
abbrev rBO (l:List TBlock):Res:=.comp false [.own .no 36 12 (bkRows l)]
noncomputable def mChainI:=mdl okCh (fun x=>[aS x.1,aI x.2]) (fun x=>if 1≤x.2∧x.2≤12 then rBO (chainOf x.1 x.2)else rN)
theorem mChainI_eq (s:ByteArray)(n:Int)(h:s.size≤1048576):mChainI [aS s,aI n]=some (if 1≤n∧n≤12 then rBO (chainOf s n)else rN):=mdl_eq (enc:=fun x:ByteArray×Int=>[aS x.1,aI x.2]) (by rintro⟨a,b⟩ ⟨c,d⟩ h;simpa using h) (s,n) h
theorem chainI_s:SoundM Tryz.prog 100 mChainI:=by
 refine SoundM.mdl Tryz.func100 rfl Tryz.ntmps100 ?_
 rintro⟨s,n⟩ w hs
 refine⟨rfl,by simp,?_⟩
 simp only [frE]
 generalize hFW:(fun k:Nat=>w.heap[k]?)=FW
 generalize hFO:oldF w=FO
 replace hs:s.size≤1048576:=hs
 have hΓ:=env_cons (hsO Tryz.func139) within_s (env_cons (hsO Tryz.func140) blkOf_s env_nil)
 have c0:=mWithin_eq n 1 12
 have hnil:bkRows []=[]:=rfl
 by_cases hn:1≤n∧n≤12
 ·rw [decide_eq_true hn]at c0
  have hv:chainOf s n=cnL s n.toNat:=if_pos hn
  refine zJ ?_
  obtain⟨J,hJ0,hJs⟩:=twoC (α:=St) [.blk 998 (.arr (.fr FO FW) 0 1 []),.slot 0 (one (.sc (.string s))),.slot 1 (vI n),.slot 5 (one (.all 11)),.blk 11 (.arr .ft 36 12 (bkRows (cnL s 0))),.slot 6 (one (.ptr 6 0)),.blk 6 (.box [.sc (.int .i64 0),.sc (.int .i64 0),.sc (.string ByteArray.empty),.sc (.string ByteArray.empty),.sc (.string ByteArray.empty),.sc (.string ByteArray.empty),.nil,.nil,.sc (.int .i64 0),.sc (.int .i64 0),.sc (.string ByteArray.empty),.nil]),.slot 7 (vI ((0+1:Nat):Int))] (fun k=>[.blk 998 (.arr (.fr FO FW) 0 1 []),.slot 0 (one (.sc (.string s))),.slot 1 (vI n),.slot 5 (one (.all 11)),.blk 11 (.arr .no 36 12 (bkRows (cnL s (k+1)))),.slot 6 (one (.ptr 6 0)),.blk 6 (.box ((bkRow (cnB s k)).map toPL)),.slot 7 (vI ((k+1+1:Nat):Int))])
  refine W.loopA (fun k=>k≤n.toNat) J (fun k=>n.toNat-k) 0 (Nat.zero_le _) (hs:=?_) (h:=?_)
  ·rw [hJ0]
   exact subP
  rintro k hk
  by_cases hlt:((k+1:Nat):Int)≤n
  ·have hok:=cnS_ok s k (by omega)
   have hap:bkRows (cnL s k)++[bkRow (cnB s k)]=bkRows (cnL s (k+1)):=by
    rw [cnL_next]
    unfold bkRows
    rw [List.map_append]
    rfl
   have hbl:(bkRows (cnL s k)).length=k:=by rw [bkRows_len,cnL_len]
   have hjk:=hJs k
   rcases Nat.eq_zero_or_pos k with rfl|hp0
   ·have hst:stB (zHd,[],[],(0,0,ByteArray.empty,[]))=cnS s 0:=by
     show(([]:List TVal),(0:Int),headId zHd)=_
     rw [headId_zero]
     rfl
    have c1:=mBlkOf_eq s 0 (zHd,[],[],(0,0,ByteArray.empty,[])) ⟨hs,show(0:Nat)<12 by omega,⟨Nat.zero_le _,Nat.zero_le _,Nat.zero_le _⟩,by rw [hst];exact hok⟩
    rw [hst]at c1
    have hcb:cnBlk s 0 (cnS s 0)=cnB s 0:=rfl
    rw [hcb]at c1
    rw [hJ0]
    generalize cnB s 0=B at*
    obtain⟨⟨h,t,la,va,ne,da⟩,b1,b2,⟨ch,cr,ci,cs⟩⟩:=B
    generalize cnL s (0+1)=L1 at*
    generalize cnL s 0=L0 at*
    dsimp only [zHd,aBk,rBk,rowsBk,rowsCm,bkRow,List.map_cons,List.map_nil,toPL]at c1 hap hjk
    have hn1:rowsF cVal []=[]:=rfl
    have hn2:rowsF cCSig []=[]:=rfl
    rw [hn1,hn2]at c1
    replace hjk:=Lib.hid hjk
    clear hst hcb hok
    replace c1:=Lib.hid c1
    refine zR ?_
    replace c1:=c1.out
    refine zO ?_
    refine zM ?_
    repeat(refine zN ?_)
    refine W.frzB 6 (h:=?_)
    refine zR ?_
    refine At.roundA (0+1) (by omega) (by omega) (hs:=?_)
    rw [hjk.out]
    simp only [List.map_cons,List.map_nil,toPL]
    exact subP
   ·obtain⟨j,rfl⟩:∃j,k=j+1:=⟨k-1,by omega⟩
    have h7:=(cnL_ok s (n:=j+1) (by omega)).2 (cnB s j) (by rw [cnL_next];simp)
    have c1:=mBlkOf_eq s (j+1) (cnB s j) ⟨hs,show j+1<12 by omega,⟨show(cnB s j).2.1.length≤1048576 by omega,show(cnB s j).2.2.1.length≤1048576 by omega,show(cnB s j).2.2.2.2.2.2.length≤1048576 by omega⟩,by rw [stB_cn];exact hok⟩
    clear h7
    rw [stB_cn]at c1
    have hcb:cnBlk s (j+1) (cnS s (j+1))=cnB s (j+1):=rfl
    rw [hcb]at c1
    rw [hJs j]
    generalize cnB s (j+1)=B at*
    generalize cnB s j=B0 at*
    obtain⟨⟨h,t,la,va,ne,da⟩,b1,b2,⟨ch,cr,ci,cs⟩⟩:=B
    obtain⟨⟨h',t',la',va',ne',da'⟩,b1',b2',⟨ch',cr',ci',cs'⟩⟩:=B0
    generalize cnL s (j+1+1)=L1 at*
    generalize cnL s (j+1)=L0 at*
    dsimp only [aBk,rBk,rowsBk,rowsCm,bkRow,List.map_cons,List.map_nil,toPL]at c1 hap hjk⊢
    replace hjk:=Lib.hid hjk
    clear hcb hok
    replace c1:=Lib.hid c1
    refine zR ?_
    replace c1:=c1.out
    refine zO ?_
    refine zM ?_
    repeat(refine zN ?_)
    refine W.frzB 6 (h:=?_)
    refine zR ?_
    refine At.roundA (j+1+1) (by omega) (by omega) (hs:=?_)
    rw [hjk.out]
    simp only [List.map_cons,List.map_nil,toPL]
    exact subP
  ·have hke:k=n.toNat:=by omega
   rcases Nat.eq_zero_or_pos k with rfl|hp0
   ·omega
   ·obtain⟨j,rfl⟩:∃j,k=j+1:=⟨k-1,by omega⟩
    rw [hJs j]
    rw [←hke]at hv
    generalize cnB s j=B at*
    obtain⟨⟨h,t,la,va,ne,da⟩,b1,b2,⟨ch,cr,ci,cs⟩⟩:=B
    dsimp only [bkRow,List.map_cons,List.map_nil,toPL]
    refine zR ?_
    subst hFW;subst hFO
    refine At.retMA (by rw [Tryz.results100]) (he:=?_)
    show _=if 1≤n∧n≤12 then rBO (chainOf s n)else rN
    rw [if_pos hn,hv,hke]
    rfl
 ·rw [decide_eq_false hn]at c0
  have hv:chainOf s n=[]:=if_neg hn
  refine zJ ?_
  subst hFW;subst hFO
  refine At.retMA (by rw [Tryz.results100]) (he:=?_)
  show _=if 1≤n∧n≤12 then rBO (chainOf s n)else rN
  rw [if_neg hn]
  rfl
end
end Go.Proofs.YtfgkfcfplodaoaaGreatDoor
