/-
  Put together out of 6 texts.
-/
import Derived.Test.YtfgkfcfplodaoaaGreatDoorK5
import Derived.Test.YtfgkfcfplodaoaaGreatDoorG11
import Derived.Test.YtfgkfcfplodaoaaGreatDoorK9
import Derived.Test.YtfgkfcfplodaoaaGreatDoorG19
import Derived.Test.YtfgkfcfplodaoaaGreatDoorK2
import Derived.Test.YtfgkfcfplodaoaaGreatDoorG21
import Derived.Test.YtfgkfcfplodaoaaGreatDoorG16
import Derived.Test.YtfgkfcfplodaoaaGreatDoorG20
import Derived.Test.YtfgkfcfplodaoaaGreatDoorK0
set_option linter.unusedSimpArgs false
set_option linter.unusedVariables false
set_option maxRecDepth 100000
set_option maxHeartbeats 8000000
namespace Go.Proofs.YtfgkfcfplodaoaaGreatDoor
open Go Go.RowKit
section
abbrev bkRow (b:TBlock):List Leaf:=[.sc (.int .i64 b.1.1),.sc (.int .i64 b.1.2.1),.sc (.string b.1.2.2.1),.sc (.string b.1.2.2.2.1),.sc (.string b.1.2.2.2.2.1),.sc (.string b.1.2.2.2.2.2),.sl (rowsF cVal b.2.1),.sl (rowsF cVal b.2.2.1),.sc (.int .i64 b.2.2.2.1),.sc (.int .i64 b.2.2.2.2.1),.sc (.string b.2.2.2.2.2.1),.sl (rowsF cCSig b.2.2.2.2.2.2)]
def bkRows (l:List TBlock):List (List Leaf):=l.map bkRow
abbrev aBS (l:List TBlock):Arg:=.val false [.sl (bkRows l)]
theorem bkRows_len (l:List TBlock):(bkRows l).length=l.length:=List.length_map _
theorem bkRows_get {l:List TBlock}{k:Nat}(h:k<l.length):(bkRows l)[k]?=some (bkRow l[k]):=by simp [bkRows,h]
theorem bkRow_inj {a b:TBlock}(h:bkRow a=bkRow b):a=b:=aBk_inj a b (by rw [show aBk a=.val true (bkRow a)from rfl,show aBk b=.val true (bkRow b)from rfl,h])
theorem bkRows_inj {a b:List TBlock}(h:bkRows a=bkRows b):a=b:=(List.map_inj_right fun x y h=>bkRow_inj h).1 h
theorem aBS_inj:∀x y:List TBlock,[aBS x]=[aBS y]→x=y:=fun x y h=>bkRows_inj (by simpa [aBS]using h)
def bkP (h:Int)(b:TBlock):Bool:=decide (b.1.1=h)
def bkAt (l:List TBlock)(h:Int):Int:=idxP (bkP h) l
noncomputable def mBkP:=mdl (fun _:TBlock×Int=>True) (fun x=>[aBk x.1,.row [.sc (.int .i64 x.2)] 0]) (fun x=>rB (bkP x.2 x.1))
theorem mBkP_eq (b:TBlock)(h:Int):mBkP [aBk b,.row [.sc (.int .i64 h)] 0]=some (rB (bkP h b)):=mdl_eq (by
 rintro⟨b,h⟩ ⟨b',h'⟩ e
 simp only [List.cons.injEq,and_true]at e
 have e1:=aBk_inj b b' (by rw [e.1])
 have e2:h=h':=by simpa using e.2
 rw [e1,e2]) (b,h) trivial
theorem bkP_s:Sound Tryz.prog 117 mBkP:=by
 refine Sound.mdl Tryz.func117 rfl Tryz.ntmps117 ?_
 rintro⟨⟨⟨h,t,la,va,ne,da⟩,l,n,⟨ch,cr,ci,cs⟩⟩,q⟩ w-
 refine⟨by simp,?_⟩
 have hΓ:=eN
 refine zJ ?_
 refine At.retA (by rw [Tryz.results117]) (he:=rfl)
noncomputable def mIdxBk (f:FuncId)(boxes:List (List Leaf))(p:TBlock→Bool):=mdl (fun l:List TBlock=>l.length≤8796093022207) (fun l=>[aBS l,.clo f boxes]) (fun l=>rI (idxP p l))
theorem mIdxBk_eq (f:FuncId)(boxes:List (List Leaf))(p:TBlock→Bool)(l:List TBlock)(h:l.length≤8796093022207):mIdxBk f boxes p [aBS l,.clo f boxes]=some (rI (idxP p l)):=mdl_eq (by
 intro a b h
 simp only [List.cons.injEq,and_true]at h
 exact aBS_inj a b (by rw [h])) l h
theorem idxBk_s {f:FuncId}{boxes:List (List Leaf)}{p:TBlock→Bool}{mf:List Arg→Option Res}(hf:Has Tryz.prog f)(hs:Sound Tryz.prog f mf)(hm:∀x,mf ([aBk x]++boxes.map fun c=>.row c 0)=some (rB (p x))):Sound Tryz.prog 116 (mIdxBk f boxes p):=by
 refine Sound.mdl Tryz.func116 rfl Tryz.ntmps116 ?_
 rintro l w hl
 refine⟨by simp,?_⟩
 replace hl:l.length≤8796093022207:=hl
 have hΓ:GSound Tryz.prog (look [(f,mf)]):=env_cons hf hs env_nil
 clear hs hf
 have hlen:=bkRows_len l
 refine zJ ?_
 refine W.loopA (fun k=>k≤l.length∧∀j,(h:j<k)→∀hj:j<l.length,p l[j]=false) (fun k:Nat=>[.slot 8 (vI k),.slot 7 (vI l.length),.slot 0 (one (.sl (bkRows l))),.slot 1 (one (.clo f boxes))]) (fun k=>l.length-k) 0 ⟨Nat.zero_le _,fun j hj=>by omega⟩ (h:=?_)
 rintro k ⟨hk,hn⟩
 by_cases hlt:k<l.length
 ·have hrow:=bkRows_get hlt
  have hm:=hm l[k]
  simp only [List.cons_append,List.nil_append]at hm
  cases hp:p l[k]with
  |true=>
   have hv:=idxP_at (p:=p) hlt (fun j hj=>hn j hj _) hp
   rw [hp]at hm
   clear hn hp
   generalize l[k]=x at hrow hm
   obtain⟨⟨h,t,la,va,ne,da⟩,x1,x2,⟨ch,cr,ci,cs⟩⟩:=x
   dsimp only [aBk,bkRow]at hm hrow
   refine zR ?_
   refine At.retA (by rw [Tryz.results116]) (he:=?_)
   rw [hv]
  |false=>
   have hnx:∀j,(h:j<k+1)→∀hj:j<l.length,p l[j]=false:=fun j h hj=>by
    rcases Nat.lt_or_ge j k with h1|h1
    ·exact hn j h1 hj
    ·have:j=k:=by omega
     subst this
     exact hp
   rw [hp]at hm
   clear hn hp
   generalize l[k]=x at hrow hm
   obtain⟨⟨h,t,la,va,ne,da⟩,x1,x2,⟨ch,cr,ci,cs⟩⟩:=x
   dsimp only [aBk,bkRow]at hm hrow
   refine zR ?_
   exact At.roundA (k+1) ⟨by omega,hnx⟩ (by omega)
 ·have hv:=idxP_no (p:=p) (l:=l) (fun j hj=>hn j (by omega) hj)
  clear hn
  refine zR ?_
  refine At.retA (by rw [Tryz.results116]) (he:=?_)
  rw [hv]
noncomputable def mBkAt:=mdl (fun x:List TBlock×Int=>x.1.length≤8796093022207) (fun x=>[aBS x.1,aI x.2]) (fun x=>rI (bkAt x.1 x.2))
theorem mBkAt_eq (l:List TBlock)(h:Int)(hl:l.length≤8796093022207):mBkAt [aBS l,aI h]=some (rI (bkAt l h)):=mdl_eq (by
 rintro⟨a,b⟩ ⟨d,e⟩ h
 simp only [List.cons.injEq,and_true]at h
 have e1:=aBS_inj a d (by rw [h.1])
 have e2:b=e:=by simpa using h.2
 rw [e1,e2]) (l,h) hl
theorem bkAt_s:Sound Tryz.prog 59 mBkAt:=by
 refine Sound.mdl Tryz.func59 rfl Tryz.ntmps59 ?_
 rintro⟨l,h⟩ w hl
 refine⟨by simp,?_⟩
 replace hl:l.length≤8796093022207:=hl
 have hΓ:GSound Tryz.prog (look [(116,mIdxBk 117 [[.sc (.int .i64 h)]] (bkP h))]):=env_cons (hsO Tryz.func116) (idxBk_s (hsO Tryz.func117) bkP_s (fun x=>mBkP_eq x h)) env_nil
 have c:=mIdxBk_eq 117 [[.sc (.int .i64 h)]] (bkP h) l hl
 refine zJ ?_
 refine At.retA (by rw [Tryz.results59]) (he:=rfl)
end
section
abbrev okBl (l:List TBlock):Prop:=l.length≤1048576∧∀b∈l,okBkS b
abbrev rBN (l:List TBlock):Res:=.comp false [.own .nd 36 12 (bkRows l)]
end
section
abbrev zBk:TBlock:=((0,0,ByteArray.empty,ByteArray.empty,ByteArray.empty,ByteArray.empty),[],[],(0,0,ByteArray.empty,[]))
end
section
def idsV (l:List TVal):List Int:=l.map fun v=>v.1
theorem idsV_len (l:List TVal):(idsV l).length=l.length:=List.length_map _
def cmVote (h:THeader)(r v:Int):TVote:=(h.1,r,2,headId h,v)
def cmSig (h:THeader)(r v:Int):TCSig:=(v,signS v (digS (cmVote h r v)))
def cmFor (h:THeader)(r:Int)(ids:List Int):TCommit:=(h.1,r,headId h,ids.map (cmSig h r))
def bytZ (s:ByteArray)(k:Nat):Int:=((byteN s k:Nat):Int)
theorem bytZ_in (s:ByteArray)(k:Nat):0≤bytZ s k∧bytZ s k≤255:=by
 have:=byteN_lt s k
 unfold bytZ
 omega
def shaH (s:ByteArray)(i:Nat):ByteArray:=shaS (s++bsS (decZ (i:Int)))
def vals0 (b:ByteArray)(n:Nat):List TVal:=(List.range n).map fun k:Nat=>((k:Int)+1,1+(bytZ b k).tmod 5)
abbrev TChS:=List TVal×Int×ByteArray
def cnVals (s:ByteArray)(k:Nat)(st:TChS):List TVal:=if k=0 then vals0 (shaH s 1) 4 else st.1
def cnNext (s:ByteArray)(k:Nat)(st:TChS):List TVal:=(chV (cnVals s k st) (1+(bytZ (shaH s (k+1)) 4).tmod 6,(bytZ (shaH s (k+1)) 5).tmod 4)).1
def cnHead (s:ByteArray)(k:Nat)(st:TChS):THeader:=(((k+1:Nat):Int),st.2.1+1+(bytZ (shaH s (k+1)) 6).tmod 5,st.2.2,vhash (cnVals s k st),vhash (cnNext s k st),bsS (decZ (bytZ (shaH s (k+1)) 7)))
def cnBlk (s:ByteArray)(k:Nat)(st:TChS):TBlock:=(cnHead s k st,cnVals s k st,cnNext s k st,cmFor (cnHead s k st) 0 (idsV (cnVals s k st)))
def cnS (s:ByteArray):Nat→TChS
 |0=>([],0,ByteArray.empty)
 |k+1=>(cnNext s k (cnS s k),(cnHead s k (cnS s k)).2.1,headId (cnHead s k (cnS s k)))
def cnB (s:ByteArray)(k:Nat):TBlock:=cnBlk s k (cnS s k)
def cnL (s:ByteArray)(n:Nat):List TBlock:=(List.range n).map (cnB s)
def chainOf (s:ByteArray)(n:Int):List TBlock:=if 1≤n∧n≤12 then cnL s n.toNat else []
theorem cnL_len (s:ByteArray)(n:Nat):(cnL s n).length=n:=by simp [cnL]
theorem cnL_next (s:ByteArray)(n:Nat):cnL s (n+1)=cnL s n++[cnB s n]:=by unfold cnL;rw [List.range_succ,List.map_append];rfl
theorem cnL_get (s:ByteArray){n k:Nat}(h:k<n):(cnL s n)[k]?=some (cnB s k):=by unfold cnL;rw [List.getElem?_map,List.getElem?_range h];rfl
theorem vals0_next (b:ByteArray)(n:Nat):vals0 b (n+1)=vals0 b n++[((n:Int)+1,1+(bytZ b n).tmod 5)]:=by unfold vals0;rw [List.range_succ,List.map_append];rfl
theorem vals0_len (b:ByteArray)(n:Nat):(vals0 b n).length=n:=by simp [vals0]
theorem tmod_in {a m:Int}(h0:0≤a)(hm:0<m):0≤a.tmod m∧a.tmod m<m:=⟨Int.tmod_nonneg _ h0,Int.tmod_lt_of_pos _ hm⟩
theorem vals0_get (b:ByteArray){n k:Nat}(h:k<n):(vals0 b n).getD k (0,0)=((k:Int)+1,1+(bytZ b k).tmod 5):=by
 rw [List.getD_eq_getElem?_getD]
 unfold vals0
 rw [List.getElem?_map,List.getElem?_range h]
 rfl
theorem vals0_ok (b:ByteArray):valsOk (vals0 b 4):=by
 refine⟨by rw [vals0_len];omega,fun k hk=>?_⟩
 rw [vals0_len]at hk
 have h5:=fun j=>tmod_in (bytZ_in b j).1 (show(0:Int)<5 by omega)
 have hb:=h5 k
 unfold valAt
 rw [vals0_get b hk]
 refine⟨by dsimp only;omega,by dsimp only;omega,by dsimp only;omega,by dsimp only;omega,fun hp=>?_⟩
 rw [vals0_get b (show k-1<4 by omega)]
 dsimp only
 omega
theorem chV_ok {l:List TVal}(x:TVal)(h:valsOk l):valsOk (chV l x).1:=by
 unfold chV
 split
 ·rename_i h1;exact h1.2.2
 ·exact h
theorem vhash_size {l:List TVal}(h:valsOk l):(vhash l).size=8:=by
 unfold vhash
 rw [if_pos h,shortS_size]
theorem headId_size8 {h:THeader}(ho:headOk h):(headId h).size=8:=by
 unfold headId
 rw [if_pos ho,shortS_size]
structure CnOk (s:ByteArray)(k:Nat)(st:TChS):Prop where
 vals:valsOk (cnVals s k st)
 t0:0≤st.2.1
 t1:st.2.1≤5*k
 last:(st.2.2.size:Int)=lastN ((k+1:Nat):Int)
theorem CnOk.next {s:ByteArray}{k:Nat}{st:TChS}(h:CnOk s k st):valsOk (cnNext s k st):=chV_ok _ h.vals
theorem bsS_size' (l:List Nat):(bsS l).size=l.length:=by simp [bsS,ByteArray.size]
theorem CnOk.head {s:ByteArray}{k:Nat}{st:TChS}(h:CnOk s k st)(hk:k<12):headOk (cnHead s k st):=by
 have h5:=tmod_in (bytZ_in (shaH s (k+1)) 6).1 (show(0:Int)<5 by omega)
 have h0:=h.t0
 have h1:=h.t1
 refine⟨⟨show(1:Int)≤((k+1:Nat):Int)by omega,show((k+1:Nat):Int)≤1000000 by omega⟩,⟨show(0:Int)≤st.2.1+1+_ by omega,show st.2.1+1+_≤(1000000:Int)by omega⟩,?_,?_,h.last,?_⟩
 ·show((vhash (cnVals s k st)).size:Int)=8
  rw [vhash_size h.vals];rfl
 ·show((vhash (cnNext s k st)).size:Int)=8
  rw [vhash_size h.next];rfl
 ·show((bsS (decZ (bytZ (shaH s (k+1)) 7))).size:Int)≤20
  rw [bsS_size']
  have:=(decZ_len (bytZ (shaH s (k+1)) 7)).2
  omega
theorem cnS_ok (s:ByteArray):∀k,k≤12→CnOk s k (cnS s k)
 |0,_=>⟨by unfold cnVals;rw [if_pos rfl];exact vals0_ok _,Int.le_refl _,by simp [cnS],rfl⟩
 |k+1,hk=>by
  have ih:=cnS_ok s k (by omega)
  have h5:=tmod_in (bytZ_in (shaH s (k+1)) 6).1 (show(0:Int)<5 by omega)
  have h0:=ih.t0
  have h1:=ih.t1
  refine⟨?_,show(0:Int)≤(cnS s k).2.1+1+_ by omega,show(cnS s k).2.1+1+_≤5*((k+1:Nat):Int)by omega,?_⟩
  ·unfold cnVals
   rw [if_neg (by omega)]
   exact ih.next
  ·show((headId (cnHead s k (cnS s k))).size:Int)=_
   rw [headId_size8 (ih.head (by omega))]
   unfold lastN
   rw [if_neg (by omega)]
   rfl
end
section
def okS:ByteArray:={data:= #[111,107]}
def noS:ByteArray:={data:= #[110,111]}
noncomputable def mOkay:=mdl (fun _:Bool=>True) (fun b=>[aB b]) (fun b=>rS (if b=true then okS else noS))
theorem mOkay_eq (b:Bool):mOkay [aB b]=some (rS (if b=true then okS else noS)):=mdl_eq (by intro a b h;simpa using h) b trivial
theorem okay_s:Sound Tryz.prog 148 mOkay:=by
 refine Sound.mdl Tryz.func148 rfl Tryz.ntmps148 ?_
 rintro b w-
 refine⟨by simp,?_⟩
 have hΓ:=eN
 refine zI ?_
 cases b with
 |true=>
  refine zR ?_
  refine At.retA (by rw [Tryz.results148]) (he:=rfl)
 |false=>
  refine zR ?_
  refine At.retA (by rw [Tryz.results148]) (he:=rfl)
def spF (s:ByteArray)(c:Nat)(st:List ByteArray×Nat)(k:Nat):List ByteArray×Nat:=if byteN s k=c then(st.1++[s.extract st.2 k],k+1)else st
def spK (s:ByteArray)(c k:Nat):List ByteArray×Nat:=(List.range k).foldl (spF s c) ([],0)
def splitS (s:ByteArray)(c:Nat):List ByteArray:=(spK s c s.size).1++[s.extract (spK s c s.size).2 s.size]
theorem spK_succ (s:ByteArray)(c k:Nat):spK s c (k+1)=spF s c (spK s c k) k:=by
 unfold spK
 rw [List.range_succ,List.foldl_append]
 rfl
theorem spK_le (s:ByteArray)(c:Nat):∀k,(spK s c k).2≤k∧(spK s c k).1.length≤k
 |0=>⟨Nat.le_refl _,Nat.le_refl _⟩
 |k+1=>by
  obtain⟨h1,h2⟩:=spK_le s c k
  rw [spK_succ]
  unfold spF
  split
  ·exact⟨Nat.le_refl _,by simp;omega⟩
  ·exact⟨by omega,by omega⟩
abbrev aU8 (c:Nat):Arg:=.val false [.sc (.int .u8 (c:Int))]
noncomputable def mSplit:=mdl (fun x:ByteArray×Nat=>x.1.size≤1048576∧x.2<256) (fun x=>[aS x.1,aU8 x.2]) (fun x=>rL 9 1 cStr (splitS x.1 x.2))
theorem mSplit_eq (s:ByteArray)(c:Nat)(h:s.size≤1048576)(hc:c<256):mSplit [aS s,aU8 c]=some (rL 9 1 cStr (splitS s c)):=mdl_eq (by
 rintro⟨a,b⟩ ⟨a',b'⟩ h
 simp at h
 exact Prod.ext h.1 (by have:=h.2;omega)) (s,c) ⟨h,hc⟩
theorem split_s:Sound Tryz.prog 47 mSplit:=by
 refine Sound.mdl Tryz.func47 rfl Tryz.ntmps47 ?_
 rintro⟨s,c⟩ w ⟨hs,hc⟩
 refine⟨by simp,?_⟩
 replace hs:s.size≤1048576:=hs
 replace hc:c<256:=hc
 have hΓ:=eN
 have hnil:rowsF cStr []=[]:=rfl
 have hv:splitS s c=(spK s c s.size).1++[s.extract (spK s c s.size).2 s.size]:=rfl
 have hN:=byteN_eq s
 replace hv:=Lib.hid hv
 refine zJ ?_
 refine W.loopA (fun k=>k≤s.size) (fun k:Nat=>[.slot 0 (one (.sc (.string s))),.slot 1 (one (.sc (.int .u8 (c:Int)))),.slot 5 (one (.all 8)),.blk 8 (.arr .ft 9 1 (rowsF cStr (spK s c k).1)),.slot 6 (vI ((spK s c k).2:Nat)),.slot 7 (vI k)]) (fun k=>s.size-k) 0 (Nat.zero_le _) (h:=?_)
 rintro k hk
 obtain⟨hle,hln⟩:=spK_le s c k
 by_cases hlt:k<s.size
 ·have ib:=byte_at hlt
  have bl:=byteN_lt s k
  have hsu:=spK_succ s c k
  unfold spF at hsu
  have happ:=cStr_appT (spK s c k).1 (s.extract (spK s c k).2 k)
  by_cases h1:byteN s k=c
  ·rw [if_pos h1]at hsu
   have h1':((byteN s k:Nat):Int)=(c:Int):=by rw [h1]
   generalize spK s c k=st at*
   obtain⟨L,p⟩:=st
   dsimp only at*
   replace hsu:=Lib.hid hsu
   refine zR ?_
   refine At.roundA (k+1) (by omega) (by omega) (hs:=?_)
   rw [hsu.out]
   exact subP
  ·rw [if_neg h1]at hsu
   have h1':¬((byteN s k:Nat):Int)=(c:Int):=by omega
   generalize spK s c k=st at*
   replace hsu:=Lib.hid hsu
   clear happ
   refine zR ?_
   refine At.roundA (k+1) (by omega) (by omega) (hs:=?_)
   rw [hsu.out]
   exact subP
 ·have hke:k=s.size:=by omega
  subst hke
  have happ:=cStr_appT (spK s c s.size).1 (s.extract (spK s c s.size).2 s.size)
  generalize spK s c s.size=st at*
  obtain⟨L,p⟩:=st
  dsimp only at*
  refine zR ?_
  refine At.retA (by rw [Tryz.results47]) (he:=?_)
  rw [hv.out]
end
section
abbrev rBk (b:TBlock):Res:=.comp true (rowsBk b)
noncomputable def mCopyB:=mdl okBkS (fun b=>[aBk b]) rBk
theorem mCopyB_eq (b:TBlock)(h:okBkS b):mCopyB [aBk b]=some (rBk b):=mdl_eq aBk_inj b h
theorem copyBS_s:Sound Tryz.prog 46 mCopyB:=by
 refine Sound.mdl Tryz.func46 rfl Tryz.ntmps46 ?_
 rintro⟨⟨h,t,la,va,ne,da⟩,b1,b2,⟨ch,cr,ci,cs⟩⟩ w ⟨h1,h2,h3⟩
 refine⟨by simp,?_⟩
 dsimp only at h1 h2 h3
 have hΓ:=eN
 have k1:=rowsF_len cVal b1
 have k2:=rowsF_len cVal b2
 have k3:=rowsF_len cCSig cs
 have w1:=rowsF_wid (f:=cVal) (s:=2) (fun _=>rfl) b1
 have w2:=rowsF_wid (f:=cVal) (s:=2) (fun _=>rfl) b2
 have w3:=rowsF_wid (f:=cCSig) (s:=2) (fun _=>rfl) cs
 refine zJ ?_
 refine At.retA (by rw [Tryz.results46]) (he:=rfl)
noncomputable def mIdsV:=mdl (fun l:List TVal=>l.length≤1048576) (fun l=>[aL cVal l]) (fun l=>rL 3 1 cInt (idsV l))
theorem mIdsV_eq (l:List TVal)(h:l.length≤1048576):mIdsV [aL cVal l]=some (rL 3 1 cInt (idsV l)):=mdl_eq (by intro a b h;simpa using h) l h
theorem idsV_s:Sound Tryz.prog 45 mIdsV:=by
 refine Sound.mdl Tryz.func45 rfl Tryz.ntmps45 ?_
 rintro l w hl
 refine⟨by simp,?_⟩
 replace hl:l.length≤1048576:=hl
 have hΓ:=eN
 have hlen:=rowsF_len cVal l
 have hnil:rowsF cInt []=[]:=rfl
 refine zJ ?_
 refine W.loopA (fun k=>k≤l.length) (fun k:Nat=>[.slot 0 (vL cVal l),.slot 3 (one (.all 5)),.blk 5 (.arr .ft 3 1 (rowsF cInt (idsV (l.take k)))),.slot 4 (vI k)]) (fun k=>l.length-k) 0 (Nat.zero_le _) (h:=?_)
 rintro k hk
 have hkl:(idsV (l.take k)).length≤1048576:=by rw [idsV_len,List.length_take];omega
 by_cases hlt:k<l.length
 ·have hrow:=val_row hlt
  have e1:=cInt_app (idsV (l.take k)) l[k].1
  have e2:idsV (l.take k)++[l[k].1]=idsV (l.take (k+1)):=by unfold idsV;rw [List.take_succ_eq_append_getElem hlt,List.map_append];rfl
  rw [e2]at e1
  clear e2
  generalize l[k]=v at*
  obtain⟨i,q⟩:=v
  dsimp only at e1
  refine zR ?_
  exact At.roundA (k+1) (by omega) (by omega)
 ·have hke:k=l.length:=by omega
  subst hke
  have hv:idsV (l.take l.length)=idsV l:=by rw [List.take_length]
  refine zR ?_
  refine At.retA (by rw [Tryz.results45]) (he:=?_)
  first|rfl|rw [hv]
abbrev aFor (x:THeader×Int×List Int):List Arg:=[aHd x.1,aI x.2.1,aL cInt x.2.2]
theorem aFor_inj:∀x y,aFor x=aFor y→x=y:=by
 rintro⟨⟨a,b,c,d,e,f⟩,r,l⟩ ⟨⟨a',b',c',d',e',f'⟩,r',l'⟩ h
 simp at h
 simp [h]
noncomputable def mFor:=mdl (fun x:THeader×Int×List Int=>0<x.2.2.length∧x.2.2.length≤1048576) aFor (fun x=>.comp true (rowsCm (cmFor x.1 x.2.1 x.2.2)))
theorem mFor_eq (h:THeader)(r:Int)(l:List Int)(h0:0<l.length)(hl:l.length≤1048576):mFor [aHd h,aI r,aL cInt l]=some (.comp true (rowsCm (cmFor h r l))):=mdl_eq aFor_inj (h,r,l) ⟨h0,hl⟩
theorem cCSig_app (l:List TCSig)(x:TCSig):rowsF cCSig l++[[.sc (.int .i64 x.1),.sc (.string x.2)]]=rowsF cCSig (l++[x]):=by rw [←rowsF_app];rfl
def asEvChain0:List (List Nat):=[[],[0],[],[],[2,3],[2,3,4],[],[],[6,7],[6,7,8],[],[],[],[11,12],[11,12,13],[10,11,12,13,14],[10,11,12,13,14,15],[6,7,8,9,10,11,12,13,14,15,16],[2,3,4,5,6,7,8,9,10,11,12,13,14,15,16,17],[2,3,4,5,6,7,8,9,10,11,12,13,14,15,16,17,18],[0,1,2,3,4,5,6,7,8,9,10,11,12,13,14,15,16,17,18,19],[0,1,2,3,4,5,6,7,8,9,10,11,12,13,14,15,16,17,18,19,20],[0,1,2,3,4,5,6,7,8,9,10,11,12,13,14,15,16,17,18,19,20,21]]
theorem for_s:Sound Tryz.prog 44 mFor:=by
 refine Sound.mdl Tryz.func44 rfl Tryz.ntmps44 ?_
 rintro⟨⟨h,t,la,va,ne,da⟩,r,l⟩ w ⟨hl0,hl⟩
 refine⟨by simp,?_⟩
 dsimp only at hl0 hl
 have hΓ:=env_cons (hsO Tryz.func13) headIdS_s (env_cons (hsO Tryz.func79) l9Vote_s (env_cons (hsO Tryz.func98) digS_s (env_cons (hsO Tryz.func97) signS_s env_nil)))
 have hlen:=rowsF_len cInt l
 have c1:=mHeadId_eq (h,t,la,va,ne,da)
 have hres:cmFor (h,t,la,va,ne,da) r l=(h,r,headId (h,t,la,va,ne,da),l.map (cmSig (h,t,la,va,ne,da) r)):=rfl
 have hsig:∀v,cmSig (h,t,la,va,ne,da) r v=(v,signS v (digS (h,r,2,headId (h,t,la,va,ne,da),v))):=fun v=>rfl
 dsimp only [aHd]at c1
 generalize cmSig (h,t,la,va,ne,da) r=sg at*
 generalize headId (h,t,la,va,ne,da)=id at*
 replace hres:=Lib.hid hres
 refine zJ ?_
 refine W.drawB hΓ 7 [[],[0],[],[],[3],[0,1,2,3,4],[],[0,1,2,3,4,5,6]] (Es:=?Es14) (rest:=?rest14) (st1:=?st114) ?_
 refine zQ ?_
 obtain⟨J,hJ0,hJs⟩:=twoC (α:=St) [.slot 8 (vI ((0:Nat):Int)),.slot 2 (vL cInt l),.slot 6 (one (.ptr 6 0)),.blk 6 (.box [.sc (.int .i64 0),.sc (.int .i64 0),.sc (.string ByteArray.empty),.nil]),.slot 7 (one (.ptr 7 0)),.blk 7 (.box [.sc (.int .i64 h),.sc (.int .i64 r),.sc (.string id),.nil])] (fun k=>[.slot 8 (vI ((k+1:Nat):Int)),.slot 2 (vL cInt l),.slot 6 (one (.ptr 6 0)),.blk 6 (.box [.sc (.int .i64 0),.sc (.int .i64 0),.sc (.string ByteArray.empty),.nil]),.slot 7 (one (.ptr 7 0)),.blk 7 (.box [.sc (.int .i64 h),.sc (.int .i64 r),.sc (.string id),.all 41]),.blk 41 (.arr .ft 127 2 (rowsF cCSig ((l.take (k+1)).map sg)))])
 refine W.loopA (fun k=>k≤l.length) J (fun k=>l.length-k) 0 (Nat.zero_le _) (hs:=?_) (h:=?_)
 ·rw [hJ0]
  exact subP
 rintro k hk
 have hsigv:∀v:Int,mSign [aI v,aS (digS (h,r,2,id,v))]=some (rS (signS v (digS (h,r,2,id,v)))):=fun v=>mSign_eq v _ (Nat.le_trans (digS_size _) (by omega))
 by_cases hlt:k<l.length
 ·have hrow:(rowsF cInt l)[k]?=some [.sc (.int .i64 l[k])]:=rowsF_get cInt l k hlt
  have e1:=cCSig_app ((l.take k).map sg) (sg l[k])
  have e2:(l.take k).map sg++[sg l[k]]=(l.take (k+1)).map sg:=by rw [List.take_succ_eq_append_getElem hlt,List.map_append];rfl
  rw [e2,hsig]at e1
  dsimp only at e1
  have hkl:((l.take k).map sg).length≤1048576:=by rw [List.length_map,List.length_take];omega
  have c4:=hsigv l[k]
  have c3:=mDig_eq (h,r,2,id,l[k])
  dsimp only [aVt]at c3
  clear hsig e2 hsigv
  generalize l[k]=v at*
  have hj1:=hJs k
  rcases Nat.eq_zero_or_pos k with rfl|hp0
  ·have c2:=mL9Vote_eq (h,r,id,[]) v (Nat.zero_le _)
   have hnil:rowsF cCSig []=[]:=rfl
   have hn2:(l.take 0).map sg=[]:=rfl
   have hn3:rowsF cInt []=[]:=rfl
   rw [hn2,hnil,List.nil_append]at e1
   dsimp only [aCm,rVt]at c2
   rw [hnil]at c2
   replace e1:=Lib.hid e1
   rw [hJ0]
   clear hn2 hkl
   refine zR ?_
   refine W.drawB hΓ 20 asEvChain0 (Es:=?Es17) (rest:=?rest17) (st1:=?st117) ?_
   refine zQ ?_
   refine At.roundA (0+1) (by omega) (by omega) (hs:=?_)
   rw [hj1,←e1.out]
   exact subP
  ·obtain⟨j,rfl⟩:∃j,k=j+1:=⟨k-1,by omega⟩
   have c2:=mL9Vote_eq (h,r,id,(l.take (j+1)).map sg) v (show((l.take (j+1)).map sg).length≤8796093022207 by omega)
   dsimp only [aCm,rVt]at c2
   rw [hJs j]
   generalize (l.take (j+1)).map sg=L at*
   have hj1:=Lib.hid hj1
   refine zR ?_
   refine W.drawB hΓ 20 asEvChain0 (Es:=?Es20) (rest:=?rest20) (st1:=?st120) ?_
   refine zQ ?_
   refine At.roundA (j+1+1) (by omega) (by omega) (hs:=?_)
   rw [hj1.out]
   exact subP
 ·obtain⟨j,rfl⟩:∃j,k=j+1:=⟨k-1,by omega⟩
  have hv:(l.take (j+1)).map sg=l.map sg:=by rw [List.take_of_length_le (by omega)]
  rw [hJs j,hv]
  clear hsig hsigv hv
  refine zR ?_
  refine At.retA (by rw [Tryz.results44]) (he:=?_)
  rw [hres.out]
abbrev okCh (x:ByteArray×Int):Prop:=x.1.size≤1048576
noncomputable def mChain:=mdl okCh (fun x=>[aS x.1,aI x.2]) (fun x=>rBN (chainOf x.1 x.2))
theorem mChain_eq (s:ByteArray)(n:Int)(h:s.size≤1048576):mChain [aS s,aI n]=some (rBN (chainOf s n)):=mdl_eq (by rintro⟨a,b⟩ ⟨c,d⟩ h;simpa using h) (s,n) h
theorem cnL_ok (s:ByteArray){n:Nat}(h:n≤12):okBl (cnL s n)∧∀b∈cnL s n,b.2.1.length≤7∧b.2.2.1.length≤7∧b.2.2.2.2.2.2.length≤7:=by
 have key:∀b∈cnL s n,b.2.1.length≤7∧b.2.2.1.length≤7∧b.2.2.2.2.2.2.length≤7:=fun b hb=>by
  unfold cnL at hb
  obtain⟨k,hk,rfl⟩:=List.mem_map.1 hb
  have hk:=List.mem_range.1 hk
  have h1:=cnS_ok s k (by omega)
  have h2:=h1.vals.1.2
  refine⟨h2,h1.next.1.2,?_⟩
  show((idsV (cnVals s k (cnS s k))).map _).length≤7
  rw [List.length_map,idsV_len]
  exact h2
 refine⟨⟨by rw [cnL_len];omega,fun b hb=>?_⟩,key⟩
 obtain⟨h1,h2,h3⟩:=key b hb
 exact⟨by omega,by omega,by omega⟩
theorem chain_s:Sound Tryz.prog 10 mChain:=by
 refine Sound.mdl Tryz.func10 rfl Tryz.ntmps10 ?_
 rintro⟨s,n⟩ w hs
 refine⟨by simp,?_⟩
 replace hs:s.size≤1048576:=hs
 have hΓ:=env_cons (hsO Tryz.func39) l1In_s (env_cons (hsO Tryz.func41) decZS_s (env_cons (hsO Tryz.func40) shaSpec_s (env_cons (hsO Tryz.func42) chV_s (env_cons (hsO Tryz.func43) vhashS_s (env_cons (hsO Tryz.func45) idsV_s (env_cons (hsO Tryz.func44) for_s (env_cons (hsO Tryz.func46) copyBS_s (env_cons (hsO Tryz.func13) headIdS_s env_nil))))))))
 have c0:=mIn_eq n 1 12
 have hnil:bkRows []=[]:=rfl
 have hnv:rowsF cVal []=[]:=rfl
 by_cases hn:1≤n∧n≤12
 ·rw [decide_eq_true hn]at c0
  have hv:chainOf s n=cnL s n.toNat:=if_pos hn
  refine zJ ?_
  refine W.toNd 16 (h:=?_)
  obtain⟨J,hJ0,hJs⟩:=twoC (α:=St) [.slot 0 (one (.sc (.string s))),.slot 1 (vI n),.slot 5 (one (.all 16)),.blk 16 (.arr .nd 36 12 (bkRows (cnL s 0))),.slot 6 (one (.all 21)),.blk 21 (.arr .ft 76 2 (rowsF cVal (vals0 (shaH s 1) 0))),.slot 7 (vI 0),.slot 8 (one (.sc (.string ByteArray.empty))),.slot 9 (vI 1)] (fun k=>[.slot 0 (one (.sc (.string s))),.slot 1 (vI n),.slot 5 (one (.all 16)),.blk 16 (.arr .nd 36 12 (bkRows (cnL s (k+1)))),.slot 6 (vL cVal (cnS s (k+1)).1),.slot 7 (vI (cnS s (k+1)).2.1),.slot 8 (one (.sc (.string (cnS s (k+1)).2.2))),.slot 9 (vI ((k+1+1:Nat):Int))])
  refine W.loopA (fun k=>k≤n.toNat) J (fun k=>n.toNat-k) 0 (Nat.zero_le _) (hs:=?_) (h:=?_)
  ·rw [hJ0]
   exact subP
  rintro k hk
  by_cases hlt:((k+1:Nat):Int)≤n
  ·have c1:=mDecZ_eq ((k+1:Nat):Int) ⟨by omega,by omega⟩
   have hdl:=(decZ_len ((k+1:Nat):Int)).2
   have c2:=mSha_eq (s++bsS (decZ ((k+1:Nat):Int))) (by rw [ByteArray.size_append,bsS_size'];omega)
   have hsh:shaS (s++bsS (decZ ((k+1:Nat):Int)))=shaH s (k+1):=rfl
   rw [hsh]at c2
   clear hsh
   have hcs:(s++bsS (decZ ((k+1:Nat):Int))).size≤16777216:=by rw [ByteArray.size_append,bsS_size'];omega
   have h32:(shaH s (k+1)).size=32:=shaS_size _
   have hbs:(bsS (decZ ((k+1:Nat):Int))).size≤11:=by rw [bsS_size'];exact hdl
   refine(fun(key:W Tryz.prog none0 w 104 [.slot 0 (one (.sc (.string s))),.slot 1 (vI n),.slot 5 (one (.all 16)),.blk 16 (.arr .nd 36 12 (bkRows (cnL s k))),.slot 6 (vL cVal (cnVals s k (cnS s k))),.slot 7 (vI (cnS s k).2.1),.slot 8 (one (.sc (.string (cnS s k).2.2))),.slot 9 (vI ((k+1:Nat):Int)),.slot 10 (one (.sc (.string (shaH s (k+1)))))] ?codeC ?postC)=>?mainC) ?partC
   case mainC=>
    by_cases hk0:k=0
    ·have vz:cnVals s k (cnS s k)=vals0 (shaH s 1) 4:=by rw [hk0];exact if_pos rfl
     have y1:((k+1:Nat):Int)=1:=by omega
     have y2:cnL s k=cnL s 0:=by rw [hk0]
     have y3:(cnS s k).2.1=0:=by rw [hk0];rfl
     have y4:(cnS s k).2.2=ByteArray.empty:=by rw [hk0];rfl
     have y5:shaH s (k+1)=shaH s 1:=by rw [hk0]
     have hJk:J k=[.slot 0 (one (.sc (.string s))),.slot 1 (vI n),.slot 5 (one (.all 16)),.blk 16 (.arr .nd 36 12 (bkRows (cnL s 0))),.slot 6 (one (.all 21)),.blk 21 (.arr .ft 76 2 (rowsF cVal (vals0 (shaH s 1) 0))),.slot 7 (vI 0),.slot 8 (one (.sc (.string ByteArray.empty))),.slot 9 (vI 1)]:=by rw [hk0];exact hJ0
     rw [vz,y1,y2,y3,y4,y5]at key
     rw [y1,y5]at c2
     rw [y1]at c1 hcs hbs
     rw [y5]at h32
     have hN:=byteN_eq (shaH s 1)
     rw [hJk]
     have hlt1:(1:Int)≤n:=hn.1
     clear y1 y2 y3 y4 y5 vz hJk
     refine zR ?_
     refine W.loopA (fun j=>j≤4) (fun j:Nat=>[.slot 0 (one (.sc (.string s))),.slot 1 (vI n),.slot 5 (one (.all 16)),.blk 16 (.arr .nd 36 12 (bkRows (cnL s 0))),.slot 6 (one (.all 21)),.blk 21 (.arr .ft 76 2 (rowsF cVal (vals0 (shaH s 1) j))),.slot 7 (vI 0),.slot 8 (one (.sc (.string ByteArray.empty))),.slot 9 (vI 1),.slot 10 (one (.sc (.string (shaH s 1)))),.slot 11 (vI j)]) (fun j=>4-j) 0 (Nat.zero_le _) (h:=?_)
     rintro j hj
     have hvl:=vals0_len (shaH s 1) j
     by_cases hj4:j<4
     ·have ib:=byte_at (s:=shaH s 1) (i:=j) (by omega)
      have bl:=byteN_lt (shaH s 1) j
      have tm:=tmod_in (a:=((byteN (shaH s 1) j:Nat):Int)) (m:=5) (by omega) (by omega)
      have e1:=cVal_app (vals0 (shaH s 1) j) ((j:Int)+1) (1+(bytZ (shaH s 1) j).tmod 5)
      rw [←vals0_next]at e1
      unfold bytZ at e1
      refine zR ?_
      exact At.roundA (j+1) (by omega) (by omega)
     ·have hj4:j=4:=by omega
      rw [hj4]
      clear hj4
      refine zR ?_
      refine W.frzA 6 21 (h:=?_)
      refine W.subA [.slot 0 (one (.sc (.string s))),.slot 1 (vI n),.slot 5 (one (.all 16)),.blk 16 (.arr .nd 36 12 (bkRows (cnL s 0))),.slot 6 (vL cVal (vals0 (shaH s 1) 4)),.slot 7 (vI 0),.slot 8 (one (.sc (.string ByteArray.empty))),.slot 9 (vI 1),.slot 10 (one (.sc (.string (shaH s 1))))] (h:=?_)
      exact key
    ·have vz:cnVals s k (cnS s k)=(cnS s k).1:=if_neg hk0
     have hne:¬((k+1:Nat):Int)=1:=by omega
     have hJk:J k=[.slot 0 (one (.sc (.string s))),.slot 1 (vI n),.slot 5 (one (.all 16)),.blk 16 (.arr .nd 36 12 (bkRows (cnL s k))),.slot 6 (vL cVal (cnS s k).1),.slot 7 (vI (cnS s k).2.1),.slot 8 (one (.sc (.string (cnS s k).2.2))),.slot 9 (vI ((k+1:Nat):Int))]:=by
      obtain⟨j,hj⟩:∃j,k=j+1:=⟨k-1,by omega⟩
      rw [hj]
      exact hJs j
     rw [vz]at key
     rw [hJk]
     generalize cnS s k=st at*
     clear hJk vz
     refine zR ?_
     refine W.loopA (fun j=>j=0) (fun _:Nat=>[.slot 0 (one (.sc (.string s))),.slot 1 (vI n),.slot 5 (one (.all 16)),.blk 16 (.arr .nd 36 12 (bkRows (cnL s k))),.slot 6 (vL cVal st.1),.slot 7 (vI st.2.1),.slot 8 (one (.sc (.string st.2.2))),.slot 9 (vI ((k+1:Nat):Int)),.slot 10 (one (.sc (.string (shaH s (k+1))))),.slot 11 (vI 0)]) (fun _=>0) 0 rfl (h:=?_)
     rintro _-
     refine zR ?_
     refine W.subA [.slot 0 (one (.sc (.string s))),.slot 1 (vI n),.slot 5 (one (.all 16)),.blk 16 (.arr .nd 36 12 (bkRows (cnL s k))),.slot 6 (vL cVal st.1),.slot 7 (vI st.2.1),.slot 8 (one (.sc (.string st.2.2))),.slot 9 (vI ((k+1:Nat):Int)),.slot 10 (one (.sc (.string (shaH s (k+1)))))] (h:=?_)
     exact key
   case partC=>
    have hok:=cnS_ok s k (by omega)
    have v7:=hok.vals.1
    have n7:=hok.next.1
    have t0:=hok.t0
    have t1:=hok.t1
    have hS:cnS s (k+1)=((chV (cnVals s k (cnS s k)) (1+((byteN (shaH s (k+1)) 4:Nat):Int).tmod 6,((byteN (shaH s (k+1)) 5:Nat):Int).tmod 4)).1,(cnS s k).2.1+1+((byteN (shaH s (k+1)) 6:Nat):Int).tmod 5,headId (((k+1:Nat):Int),(cnS s k).2.1+1+((byteN (shaH s (k+1)) 6:Nat):Int).tmod 5,(cnS s k).2.2,vhash (cnVals s k (cnS s k)),vhash (chV (cnVals s k (cnS s k)) (1+((byteN (shaH s (k+1)) 4:Nat):Int).tmod 6,((byteN (shaH s (k+1)) 5:Nat):Int).tmod 4)).1,bsS (decZ ((byteN (shaH s (k+1)) 7:Nat):Int)))):=rfl
    have hB:bkRows (cnL s k)++[bkRow (((((k+1:Nat):Int),(cnS s k).2.1+1+((byteN (shaH s (k+1)) 6:Nat):Int).tmod 5,(cnS s k).2.2,vhash (cnVals s k (cnS s k)),vhash (chV (cnVals s k (cnS s k)) (1+((byteN (shaH s (k+1)) 4:Nat):Int).tmod 6,((byteN (shaH s (k+1)) 5:Nat):Int).tmod 4)).1,bsS (decZ ((byteN (shaH s (k+1)) 7:Nat):Int))),cnVals s k (cnS s k),(chV (cnVals s k (cnS s k)) (1+((byteN (shaH s (k+1)) 4:Nat):Int).tmod 6,((byteN (shaH s (k+1)) 5:Nat):Int).tmod 4)).1,cmFor ((((k+1:Nat):Int),(cnS s k).2.1+1+((byteN (shaH s (k+1)) 6:Nat):Int).tmod 5,(cnS s k).2.2,vhash (cnVals s k (cnS s k)),vhash (chV (cnVals s k (cnS s k)) (1+((byteN (shaH s (k+1)) 4:Nat):Int).tmod 6,((byteN (shaH s (k+1)) 5:Nat):Int).tmod 4)).1,bsS (decZ ((byteN (shaH s (k+1)) 7:Nat):Int))):THeader) 0 (idsV (cnVals s k (cnS s k)))):TBlock)]=bkRows (cnL s (k+1)):=by
     rw [cnL_next]
     unfold bkRows
     rw [List.map_append]
     rfl
    have n7:(chV (cnVals s k (cnS s k)) (1+((byteN (shaH s (k+1)) 4:Nat):Int).tmod 6,((byteN (shaH s (k+1)) 5:Nat):Int).tmod 4)).1.length≤7:=n7.2
    have hbl:(bkRows (cnL s k)).length=k:=by rw [bkRows_len,cnL_len]
    have hJk:=hJs k
    rw [hS]at hJk
    have c3:=mChV_eq (cnVals s k (cnS s k)) (1+((byteN (shaH s (k+1)) 4:Nat):Int).tmod 6,((byteN (shaH s (k+1)) 5:Nat):Int).tmod 4) (by omega)
    have hrw:rowsF cVal [(1+((byteN (shaH s (k+1)) 4:Nat):Int).tmod 6,((byteN (shaH s (k+1)) 5:Nat):Int).tmod 4)]=[[.sc (.int .i64 (1+((byteN (shaH s (k+1)) 4:Nat):Int).tmod 6)),.sc (.int .i64 (((byteN (shaH s (k+1)) 5:Nat):Int).tmod 4))]]:=rfl
    dsimp only [aL]at c3
    rw [hrw]at c3
    generalize cnVals s k (cnS s k)=vv at*
    generalize hx:chV vv (1+((byteN (shaH s (k+1)) 4:Nat):Int).tmod 6,((byteN (shaH s (k+1)) 5:Nat):Int).tmod 4)=nxp at*
    obtain⟨nx,nb⟩:=nxp
    replace n7:nx.length≤7:=n7
    clear hx hS hrw hok hJ0 hJs hv c0 c1 c2 hdl hcs hbs
    generalize cnS s k=st at*
    obtain⟨sv,tm,la⟩:=st
    generalize cnL s (k+1)=L1 at*
    generalize cnL s k=L0 at*
    generalize shaH s (k+1)=b at*
    dsimp only at c3 t0 t1 hB hJk⊢
    have i4:=byte_at (s:=b) (i:=4) (by omega)
    have i5:=byte_at (s:=b) (i:=5) (by omega)
    have i6:=byte_at (s:=b) (i:=6) (by omega)
    have i7:=byte_at (s:=b) (i:=7) (by omega)
    have hN:=byteN_eq b
    have l4:=byteN_lt b 4
    have l5:=byteN_lt b 5
    have l6:=byteN_lt b 6
    have l7:=byteN_lt b 7
    have m4:=tmod_in (a:=((byteN b 4:Nat):Int)) (m:=6) (by omega) (by omega)
    have m5:=tmod_in (a:=((byteN b 5:Nat):Int)) (m:=4) (by omega) (by omega)
    have m6:=tmod_in (a:=((byteN b 6:Nat):Int)) (m:=5) (by omega) (by omega)
    have c4:=mVHash_eq vv (by omega)
    have c5:=mVHash_eq nx (by omega)
    have c6:=mDecZ_eq ((byteN b 7:Nat):Int) ⟨by omega,by omega⟩
    have c7:=mIdsV_eq vv (by omega)
    have il:=idsV_len vv
    generalize hh:((((k+1:Nat):Int),tm+1+((byteN b 6:Nat):Int).tmod 5,la,vhash vv,vhash nx,bsS (decZ ((byteN b 7:Nat):Int))):THeader)=hd at hB hJk
    have c8:=mFor_eq hd 0 (idsV vv) (by omega) (by omega)
    have c9:=mCopyB_eq (hd,vv,nx,cmFor hd 0 (idsV vv)) ⟨show vv.length≤_ by omega,show nx.length≤_ by omega,show((idsV vv).map (cmSig hd 0)).length≤_ by rw [List.length_map];omega⟩
    have c10:=mHeadId_eq hd
    have e1:cmFor hd 0 (idsV vv)=(hd.1,0,headId hd,(idsV vv).map (cmSig hd 0)):=rfl
    rw [e1]at c8 c9 hB
    generalize (idsV vv).map (cmSig hd 0)=sg at*
    generalize idsV vv=ids at*
    generalize headId hd=hid at*
    subst hh
    dsimp only [aHd,aBk,rBk,rowsBk,rowsCm,bkRow]at c8 c9 c10 hB
    generalize vhash vv=h1 at*
    generalize vhash nx=h2 at*
    generalize bsS (decZ ((byteN b 7:Nat):Int))=da at*
    have hJk:=Lib.hid hJk
    clear e1
    refine W.drawB hΓ 18 [[],[],[1],[1,2],[1,2,3],[1,2,3,4],[],[6],[6,7],[6,7,8],[1,2,3,4,5,6,7,8,9],[1,2,3,4,5,6,7,8,9,10],[0,1,2,3,4,5,6,7,8,9,10,11],[0,1,2,3,4,5,6,7,8,9,10,11,12],[0,1,2,3,4,5,6,7,8,9,10,11,12,13],[0,1,2,3,4,5,6,7,8,9,10,11,12,13],[0,1,2,3,4,5,6,7,8,9,10,11,12,13,14],[0,1,2,3,4,5,6,7,8,9,10,11,12,13,14,15,16]] (Es:=?Es32) (rest:=?rest32) (st1:=?st132) ?_
    refine zQ ?_
    refine W.drawB hΓ 13 [[],[],[],[],[3],[],[3,4,5],[],[7],[7,8],[3,4,5,6,7,8,9],[0,1,2,3,4,5,6,7,8,9,10],[],[0,1,2,3,4,5,6,7,8,9,10,11,12]] (Es:=?Es34) (rest:=?rest34) (st1:=?st134) ?_
    refine zQ ?_
    refine W.drawB hΓ 9 [[],[],[],[],[],[4],[3,4,5],[0,1,2,3,4,5,6],[],[0,1,2,3,4,5,6,7,8]] (Es:=?Es36) (rest:=?rest36) (st1:=?st136) ?_
    refine zQ ?_
    refine At.frzA 6 65 (h:=?_)
    refine At.roundA (k+1) (by omega) (by omega) (hs:=?_)
    rw [hJk.out]
    exact subP
  ·have hke:k=n.toNat:=by omega
   have hv2:=hv
   rcases Nat.eq_zero_or_pos k with rfl|hp0
   ·omega
   ·obtain⟨j,rfl⟩:∃j,k=j+1:=⟨k-1,by omega⟩
    rw [hJs j]
    rw [←hke]at hv
    generalize cnS s (j+1)=st at*
    refine zR ?_
    refine At.retA (by rw [Tryz.results10]) (he:=?_)
    rw [hv,hke]
 ·rw [decide_eq_false hn]at c0
  have hv:chainOf s n=[]:=if_neg hn
  refine zJ ?_
  refine At.toNd 16 (h:=?_)
  refine At.retA (by rw [Tryz.results10]) (he:=?_)
  rw [hv]
  rfl
end
end Go.Proofs.YtfgkfcfplodaoaaGreatDoor
