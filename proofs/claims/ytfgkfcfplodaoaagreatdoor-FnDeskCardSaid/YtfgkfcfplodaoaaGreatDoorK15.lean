/-
  Put together out of 6 texts.
-/
import Derived.Test.YtfgkfcfplodaoaaGreatDoorK13
import Derived.Test.YtfgkfcfplodaoaaGreatDoorG23
import Derived.Test.YtfgkfcfplodaoaaGreatDoorK7
set_option linter.unusedSimpArgs false
set_option linter.unusedVariables false
set_option maxRecDepth 100000
set_option maxHeartbeats 64000000
namespace Go.Proofs.YtfgkfcfplodaoaaGreatDoor
open Go Go.RowKit
section
noncomputable def mWords:=mdl (fun s:ByteArray=>s.size≤1048576) (fun s=>[aS s]) (fun s=>rL 9 1 cStr (splitS s 32))
theorem mWords_eq (s:ByteArray)(h:s.size≤1048576):mWords [aS s]=some (rL 9 1 cStr (splitS s 32)):=mdl_eq (enc:=fun s:ByteArray=>[aS s]) (by intro a b h;simpa using h) s h
theorem words_s:Sound Tryz.prog 108 mWords:=by
 refine Sound.mdl Tryz.func108 rfl Tryz.ntmps108 ?_
 rintro s w hs
 refine⟨by simp,?_⟩
 replace hs:s.size≤1048576:=hs
 have hΓ:=eN
 have hnil:rowsF cStr []=[]:=rfl
 have hv:splitS s 32=(spK s 32 s.size).1++[s.extract (spK s 32 s.size).2 s.size]:=rfl
 have hN:=byteN_eq s
 replace hv:=Lib.hid hv
 refine zJ ?_
 refine W.loopA (fun k=>k≤s.size) (fun k:Nat=>[.slot 0 (one (.sc (.string s))),.slot 3 (one (.all 6)),.blk 6 (.arr .ft 9 1 (rowsF cStr (spK s 32 k).1)),.slot 4 (vI ((spK s 32 k).2:Nat)),.slot 5 (vI k)]) (fun k=>s.size-k) 0 (Nat.zero_le _) (h:=?_)
 rintro k hk
 obtain⟨hle,hln⟩:=spK_le s 32 k
 by_cases hlt:k<s.size
 ·have ib:=byte_at hlt
  have bl:=byteN_lt s k
  have hsu:=spK_succ s 32 k
  unfold spF at hsu
  have happ:=cStr_appT (spK s 32 k).1 (s.extract (spK s 32 k).2 k)
  by_cases h1:byteN s k=32
  ·rw [if_pos h1]at hsu
   have h1':((byteN s k:Nat):Int)=32:=by omega
   generalize spK s 32 k=st at*
   obtain⟨L,p⟩:=st
   dsimp only at*
   replace hsu:=Lib.hid hsu
   refine zR ?_
   refine At.roundA (k+1) (by omega) (by omega) (hs:=?_)
   rw [hsu.out]
   exact subP
  ·rw [if_neg h1]at hsu
   have h1':¬((byteN s k:Nat):Int)=32:=by omega
   generalize spK s 32 k=st at*
   replace hsu:=Lib.hid hsu
   clear happ
   refine zR ?_
   refine At.roundA (k+1) (by omega) (by omega) (hs:=?_)
   rw [hsu.out]
   exact subP
 ·have hke:k=s.size:=by omega
  subst hke
  have happ:=cStr_appT (spK s 32 s.size).1 (s.extract (spK s 32 s.size).2 s.size)
  generalize spK s 32 s.size=st at*
  obtain⟨L,p⟩:=st
  dsimp only at*
  refine zR ?_
  refine At.retA (by rw [Tryz.results108]) (he:=?_)
  rw [hv.out]
theorem yes_s:Sound Tryz.prog 155 mOkay:=by
 refine Sound.mdl Tryz.func155 rfl Tryz.ntmps155 ?_
 rintro b w-
 refine⟨by simp,?_⟩
 have hΓ:=eN
 refine zI ?_
 cases b with
 |true=>
  refine zR ?_
  refine At.retA (by rw [Tryz.results155]) (he:=rfl)
 |false=>
  refine zR ?_
  refine At.retA (by rw [Tryz.results155]) (he:=rfl)
noncomputable def mIdsS:=mdl (fun L:List TBlock=>L.length≤1048576) (fun L=>[aBS L]) (fun L=>rL 9 1 cStr (idsD L))
theorem mIdsS_eq (L:List TBlock)(h:L.length≤1048576):mIdsS [aBS L]=some (rL 9 1 cStr (idsD L)):=mdl_eq (enc:=fun L:List TBlock=>[aBS L]) (fun a b h=>aBS_inj a b h) L h
theorem idsS_s:Sound Tryz.prog 157 mIdsS:=by
 refine Sound.mdl Tryz.func157 rfl Tryz.ntmps157 ?_
 rintro L w hl
 refine⟨by simp,?_⟩
 replace hl:L.length≤1048576:=hl
 have hΓ:=env_cons (hsO Tryz.func13) headIdS_s env_nil
 have hlen:=bkRows_len L
 have hnil:rowsF cStr []=[]:=rfl
 refine zJ ?_
 refine W.loopA (fun k=>k≤L.length) (fun k:Nat=>[.slot 0 (one (.sl (bkRows L))),.slot 4 (vI k),.slot 3 (one (.all 5)),.blk 5 (.arr .ft 9 1 (rowsF cStr (idsD (L.take k))))]) (fun k=>L.length-k) 0 (Nat.zero_le _) (h:=?_)
 rintro k hk
 have hkl:(idsD (L.take k)).length≤1048576:=by unfold idsD;rw [List.length_map,List.length_take];omega
 by_cases hlt:k<L.length
 ·have hrow:=bkRow_at L k hlt
  have c1:=mHeadId_eq L[k].1
  have hL:idsD (L.take (k+1))=idsD (L.take k)++[headId L[k].1]:=by
   unfold idsD
   rw [List.take_succ_eq_append_getElem hlt,List.map_append]
   rfl
  have happ:=cStr_appT (idsD (L.take k)) (headId L[k].1)
  rw [←hL]at happ
  clear hL
  generalize hL1:idsD (L.take (k+1))=L1 at*
  generalize idsD (L.take k)=L0 at*
  generalize L[k]=B at*
  obtain⟨⟨h,t,la,va,ne,da⟩,b1,b2,⟨ch,cr,ci,cs⟩⟩:=B
  generalize headId (h,t,la,va,ne,da)=x at*
  dsimp only [aHd,bkRow]at c1 hrow happ
  replace hL1:=Lib.hid hL1
  refine zR ?_
  refine At.roundA (k+1) (by omega) (by omega) (hs:=?_)
  rw [hL1.out]
  exact subP
 ·have ht:L.take k=L:=List.take_of_length_le (by omega)
  rw [ht]
  clear ht hkl
  refine zR ?_
  refine At.retA (by rw [Tryz.results157]) (he:=rfl)
def argN (w:ByteArray):Int:=if w=tipW then 0 else if w=bannedW then 0 else if w=rootW then 0 else if w=peerW then 1 else if w=tickW then 1 else if w=seenW then 1 else if w=proofW then 1 else if w=chainW then 1 else if w=startW then 2 else if w=feedW then 2 else if w=lieW then 2 else-1
noncomputable def mArgN:=mdl (fun _:ByteArray=>True) (fun s=>[aS s]) (fun s=>rI (argN s))
theorem mArgN_eq (s:ByteArray):mArgN [aS s]=some (rI (argN s)):=mdl_eq (enc:=fun s:ByteArray=>[aS s]) (by intro a b h;simpa using h) s trivial
theorem args_s:Sound Tryz.prog 109 mArgN:=by
 refine Sound.mdl Tryz.func109 rfl Tryz.ntmps109 ?_
 rintro s w-
 refine⟨by simp,?_⟩
 have hΓ:=eN
 have hv:argN s=if s=tipW then 0 else if s=bannedW then 0 else if s=rootW then 0 else if s=peerW then 1 else if s=tickW then 1 else if s=seenW then 1 else if s=proofW then 1 else if s=chainW then 1 else if s=startW then 2 else if s=feedW then 2 else if s=lieW then 2 else-1:=rfl
 refine zI ?_
 by_cases h0:s=tipW
 ·rw [if_pos h0]at hv
  have t0:decide (s=(⟨#[116,105,112]⟩:ByteArray))=true:=dcT h0
  clear h0
  replace hv:=Lib.hid hv
  refine zR ?_
  refine At.retA (by rw [Tryz.results109]) (he:=?_)
  rw [hv.out]
 rw [if_neg h0]at hv
 replace h0:decide (s=(⟨#[116,105,112]⟩:ByteArray))=false:=dcF h0
 by_cases h1:s=bannedW
 ·rw [if_pos h1]at hv
  have t1:decide (s=(⟨#[98,97,110,110,101,100]⟩:ByteArray))=true:=dcT h1
  clear h1
  replace hv:=Lib.hid hv
  refine zR ?_
  refine At.retA (by rw [Tryz.results109]) (he:=?_)
  rw [hv.out]
 rw [if_neg h1]at hv
 replace h1:decide (s=(⟨#[98,97,110,110,101,100]⟩:ByteArray))=false:=dcF h1
 by_cases h2:s=rootW
 ·rw [if_pos h2]at hv
  have t2:decide (s=(⟨#[114,111,111,116]⟩:ByteArray))=true:=dcT h2
  clear h2
  replace hv:=Lib.hid hv
  refine zR ?_
  refine At.retA (by rw [Tryz.results109]) (he:=?_)
  rw [hv.out]
 rw [if_neg h2]at hv
 replace h2:decide (s=(⟨#[114,111,111,116]⟩:ByteArray))=false:=dcF h2
 by_cases h3:s=peerW
 ·rw [if_pos h3]at hv
  have t3:decide (s=(⟨#[112,101,101,114]⟩:ByteArray))=true:=dcT h3
  clear h3
  replace hv:=Lib.hid hv
  refine zR ?_
  refine At.retA (by rw [Tryz.results109]) (he:=?_)
  rw [hv.out]
 rw [if_neg h3]at hv
 replace h3:decide (s=(⟨#[112,101,101,114]⟩:ByteArray))=false:=dcF h3
 by_cases h4:s=tickW
 ·rw [if_pos h4]at hv
  have t4:decide (s=(⟨#[116,105,99,107]⟩:ByteArray))=true:=dcT h4
  clear h4
  replace hv:=Lib.hid hv
  refine zR ?_
  refine At.retA (by rw [Tryz.results109]) (he:=?_)
  rw [hv.out]
 rw [if_neg h4]at hv
 replace h4:decide (s=(⟨#[116,105,99,107]⟩:ByteArray))=false:=dcF h4
 by_cases h5:s=seenW
 ·rw [if_pos h5]at hv
  have t5:decide (s=(⟨#[115,101,101,110]⟩:ByteArray))=true:=dcT h5
  clear h5
  replace hv:=Lib.hid hv
  refine zR ?_
  refine At.retA (by rw [Tryz.results109]) (he:=?_)
  rw [hv.out]
 rw [if_neg h5]at hv
 replace h5:decide (s=(⟨#[115,101,101,110]⟩:ByteArray))=false:=dcF h5
 by_cases h6:s=proofW
 ·rw [if_pos h6]at hv
  have t6:decide (s=(⟨#[112,114,111,111,102]⟩:ByteArray))=true:=dcT h6
  clear h6
  replace hv:=Lib.hid hv
  refine zR ?_
  refine At.retA (by rw [Tryz.results109]) (he:=?_)
  rw [hv.out]
 rw [if_neg h6]at hv
 replace h6:decide (s=(⟨#[112,114,111,111,102]⟩:ByteArray))=false:=dcF h6
 by_cases h7:s=chainW
 ·rw [if_pos h7]at hv
  have t7:decide (s=(⟨#[99,104,97,105,110]⟩:ByteArray))=true:=dcT h7
  clear h7
  replace hv:=Lib.hid hv
  refine zR ?_
  refine At.retA (by rw [Tryz.results109]) (he:=?_)
  rw [hv.out]
 rw [if_neg h7]at hv
 replace h7:decide (s=(⟨#[99,104,97,105,110]⟩:ByteArray))=false:=dcF h7
 by_cases h8:s=startW
 ·rw [if_pos h8]at hv
  have t8:decide (s=(⟨#[115,116,97,114,116]⟩:ByteArray))=true:=dcT h8
  clear h8
  replace hv:=Lib.hid hv
  refine zR ?_
  refine At.retA (by rw [Tryz.results109]) (he:=?_)
  rw [hv.out]
 rw [if_neg h8]at hv
 replace h8:decide (s=(⟨#[115,116,97,114,116]⟩:ByteArray))=false:=dcF h8
 by_cases h9:s=feedW
 ·rw [if_pos h9]at hv
  have t9:decide (s=(⟨#[102,101,101,100]⟩:ByteArray))=true:=dcT h9
  clear h9
  replace hv:=Lib.hid hv
  refine zR ?_
  refine At.retA (by rw [Tryz.results109]) (he:=?_)
  rw [hv.out]
 rw [if_neg h9]at hv
 replace h9:decide (s=(⟨#[102,101,101,100]⟩:ByteArray))=false:=dcF h9
 by_cases h10:s=lieW
 ·rw [if_pos h10]at hv
  have t10:decide (s=(⟨#[108,105,101]⟩:ByteArray))=true:=dcT h10
  clear h10
  replace hv:=Lib.hid hv
  refine zR ?_
  refine At.retA (by rw [Tryz.results109]) (he:=?_)
  rw [hv.out]
 rw [if_neg h10]at hv
 replace h10:decide (s=(⟨#[108,105,101]⟩:ByteArray))=false:=dcF h10
 replace hv:=Lib.hid hv
 refine zR ?_
 refine At.retA (by rw [Tryz.results109]) (he:=?_)
 rw [hv.out]
end
section
abbrev TAtS:=TTrust×THeader×List TVal×Int
abbrev aAtS (x:TAtS):List Arg:=[aTr x.1,aHd x.2.1,aL cVal x.2.2.1,aI x.2.2.2]
theorem aAtS_inj:∀x y,aAtS x=aAtS y→x=y:=by
 rintro⟨⟨p,s⟩,⟨h1,h2,h3,h4,h5,h6⟩,l,n⟩ ⟨⟨p',s'⟩,⟨h1',h2',h3',h4',h5',h6'⟩,l',n'⟩ h
 simp [aAtS,aTr,aHd]at h
 simp [h]
def atX (x:TAtS):TLight:=(x.1,1,(x.2.1,x.2.2.1),([x.2.1],1),([],0),x.2.2.2)
noncomputable def mAtS:=mdl (fun x:TAtS=>x.2.2.1.length≤1048576) aAtS (fun x=>.comp true (rLtN (atX x)))
theorem mAtS_eq (x:TAtS)(h:x.2.2.1.length≤1048576):mAtS (aAtS x)=some (.comp true (rLtN (atX x))):=mdl_eq aAtS_inj x h
theorem atS_s:Sound Tryz.prog 203 mAtS:=by
 refine Sound.mdl Tryz.func203 rfl Tryz.ntmps203 ?_
 rintro⟨⟨p,s⟩,⟨h1,h2,h3,h4,h5,h6⟩,l,n⟩ w hl
 refine⟨by simp,?_⟩
 replace hl:l.length≤1048576:=hl
 have hΓ:=env_cons (hsO Tryz.func65) copyAS_s env_nil
 have c1:=mCopyA_eq ((h1,h2,h3,h4,h5,h6),l) hl
 have hr1:rowsF cHeader [(h1,h2,h3,h4,h5,h6)]=[[.sc (.int .i64 h1),.sc (.int .i64 h2),.sc (.string h3),.sc (.string h4),.sc (.string h5),.sc (.string h6)]]:=rfl
 refine zJ ?_
 refine At.retA (by rw [Tryz.results203]) (he:=rfl)
theorem newS_s:Sound Tryz.prog 154 mNew:=by
 refine Sound.mdl Tryz.func154 rfl Tryz.ntmps154 ?_
 rintro⟨⟨p,s⟩,⟨⟨h,t,la,va,ne,da⟩,b1,b2,⟨ch,cr,ci,cs⟩⟩,now⟩ w ⟨h1,h2,h3⟩
 refine⟨by simp,?_⟩
 dsimp only at h1 h2 h3
 have hΓ:=env_cons (hsO Tryz.func203) atS_s (env_cons (hsO Tryz.func73) blkOkS_s (env_cons (hsO Tryz.func204) lightS_s env_nil))
 have c1:=mAtS_eq ((p,s),(h,t,la,va,ne,da),b2,now) h2
 have c2:=mBlock_eq ((h,t,la,va,ne,da),b1,b2,(ch,cr,ci,cs)) ⟨show b1.length≤_ by omega,show b2.length≤_ by omega,show cs.length≤_ by omega⟩
 have c3:=mLight_eq (newX (p,s) ((h,t,la,va,ne,da),b1,b2,(ch,cr,ci,cs)) now) ⟨show b2.length≤_ by omega,Nat.le_trans (Nat.le_of_eq rfl:[(h,t,la,va,ne,da)].length≤1) (by decide),Nat.zero_le _⟩
 have hB:newB (p,s) ((h,t,la,va,ne,da),b1,b2,(ch,cr,ci,cs)) now=(decide (blockOk ((h,t,la,va,ne,da),b1,b2,(ch,cr,ci,cs)))&&(decide (lightOk (newX (p,s) ((h,t,la,va,ne,da),b1,b2,(ch,cr,ci,cs)) now))&&decide (now≤expT (p,s) t))):=rfl
 have k2:=rowsF_len cVal b2
 have hex:decide (lightOk (newX (p,s) ((h,t,la,va,ne,da),b1,b2,(ch,cr,ci,cs)) now))=true→expT (p,s) t=t+p∧(0≤t∧t≤1000000)∧(1≤p∧p≤100000):=fun q=>by
  have q:=of_decide_eq_true q
  have q1:trustOk (p,s):=q.1
  have q2:0≤t∧t≤1000000:=q.2.1.1.2.1
  exact⟨if_pos ⟨q1,q2⟩,q2,q1.1⟩
 generalize decide (lightOk (newX (p,s) ((h,t,la,va,ne,da),b1,b2,(ch,cr,ci,cs)) now))=lb at*
 generalize expT (p,s) t=ex at*
 have hx:newX (p,s) ((h,t,la,va,ne,da),b1,b2,(ch,cr,ci,cs)) now=((p,s),1,((h,t,la,va,ne,da),b2),([(h,t,la,va,ne,da)],1),([],0),now):=rfl
 rw [hx]at c3
 have hr1:rowsF cHeader [(h,t,la,va,ne,da)]=[[.sc (.int .i64 h),.sc (.int .i64 t),.sc (.string la),.sc (.string va),.sc (.string ne),.sc (.string da)]]:=rfl
 have hr2:rowsF cPeer []=[]:=rfl
 dsimp only [aLt,lLt]at c3
 dsimp only [aAtS,aHd,atX,rLtN]at c1
 rw [hr1,hr2]at c3
 rw [hr1]at c1
 refine zI ?_
 by_cases g1:blockOk ((h,t,la,va,ne,da),b1,b2,(ch,cr,ci,cs))
 ·rw [decide_eq_true g1]at c2 hB
  cases lb with
  |true=>
   obtain⟨rfl,ht1,ht2⟩:=hex rfl
   clear hex
   by_cases g3:now≤t+p
   ·rw [decide_eq_true g3]at hB
    replace hB:=Lib.hid hB
    clear g1
    refine zR ?_
    refine At.retA (by rw [Tryz.results154]) (he:=?_)
    rw [hB.out]
    rfl
   ·rw [decide_eq_false g3]at hB
    replace hB:=Lib.hid hB
    clear g1
    refine zR ?_
    refine At.retA (by rw [Tryz.results154]) (he:=?_)
    rw [hB.out]
    rfl
  |false=>
   rw [Bool.false_and]at hB
   replace hB:=Lib.hid hB
   clear g1 hex
   refine zR ?_
   refine At.retA (by rw [Tryz.results154]) (he:=?_)
   rw [hB.out]
   rfl
 ·rw [decide_eq_false g1,Bool.false_and]at hB
  rw [decide_eq_false g1]at c2
  replace hB:=Lib.hid hB
  clear g1 c3 hex
  refine zR ?_
  refine At.retA (by rw [Tryz.results154]) (he:=?_)
  rw [hB.out]
  rfl
end
section
abbrev pLt (x:TLight)(k:Nat):List PL:=[.sc (.int .i64 x.1.1),.sc (.int .i64 x.1.2),.sc (.int .i64 x.2.1),.sc (.int .i64 x.2.2.1.1.1),.sc (.int .i64 x.2.2.1.1.2.1),.sc (.string x.2.2.1.1.2.2.1),.sc (.string x.2.2.1.1.2.2.2.1),.sc (.string x.2.2.1.1.2.2.2.2.1),.sc (.string x.2.2.1.1.2.2.2.2.2),.sl (rowsF cVal x.2.2.1.2),.all k,.sc (.int .i64 x.2.2.2.1.2),.sl (rowsF cPeer x.2.2.2.2.1.1),.sc (.int .i64 x.2.2.2.2.1.2),.sc (.int .i64 x.2.2.2.2.2)]
abbrev hdRows (x:TLight):List (List Leaf):=rowsF cHeader x.2.2.2.1.1
theorem tickS_s:SoundO Tryz.prog 160 (fun x:TLight×Int=>lightOk x.1) 30 6 (fun x=>hdRows x.1) (fun x=>[(true,pLt x.1 997),(false,[.sc (.int .i64 x.2)])]) (fun x=>hdRows (tickL x.1 x.2)) (fun x=>[(true,pLt (tickL x.1 x.2) 997),(false,[.sc (.bool (tickB x.1 x.2))])]):=by
 refine SoundO.of Tryz.func160 rfl Tryz.ntmps160 ?_
 rintro⟨⟨⟨p,s⟩,st,⟨⟨h1,h2,h3,h4,h5,h6⟩,v⟩,⟨l,n⟩,⟨q,m⟩,now⟩,d⟩ γ0 w hx hγ
 refine⟨by simp,?_⟩
 simp only [frE,initO]
 generalize hFW:(fun k:Nat=>w.heap[k]?)=FW
 generalize hFO:(fun b:Nat=>γ0 b=some 998)=FO
 replace hx:lightOk ((p,s),st,((h1,h2,h3,h4,h5,h6),v),(l,n),(q,m),now):=hx
 have hΓ:=env_cons (hsO Tryz.func39) l1In_s (env_cons (hsO Tryz.func74) l10Time_s env_nil)
 have c3:=mIn_eq d 1 1000
 have c4:=mTime_eq (now+d)
 have hnow:0≤now∧now≤1000000:=hx.2.2.2.2.2.1
 have htr:trustOk (p,s):=hx.1
 have hp:1≤p∧p≤100000:=htr.1
 have hh2:0≤h2∧h2≤1000000:=hx.2.1.1.2.1
 have hex:expT (p,s) h2=h2+p:=if_pos ⟨htr,hh2⟩
 have hB:tickB ((p,s),st,((h1,h2,h3,h4,h5,h6),v),(l,n),(q,m),now) d=(decide (1≤d∧d≤1000)&&decide (0≤now+d∧now+d≤1000000)):=rfl
 have hL:tickL ((p,s),st,((h1,h2,h3,h4,h5,h6),v),(l,n),(q,m),now) d=if tickB ((p,s),st,((h1,h2,h3,h4,h5,h6),v),(l,n),(q,m),now) d=true then((p,s),if expT (p,s) h2<now+d then 2 else st,((h1,h2,h3,h4,h5,h6),v),(l,n),(q,m),now+d)else((p,s),st,((h1,h2,h3,h4,h5,h6),v),(l,n),(q,m),now):=rfl
 rw [hB,hex]at hL
 clear hx hex htr
 by_cases g1:1≤d∧d≤1000
 ·rw [decide_eq_true g1]at c3 hB hL
  by_cases g2:0≤now+d∧now+d≤1000000
  ·rw [decide_eq_true g2]at c4 hB hL
   rw [if_pos (show(true&&true)=true from rfl)]at hL
   by_cases g3:h2+p<now+d
   ·rw [if_pos g3]at hL
    replace hB:=Lib.hid hB
    replace hL:=Lib.hid hL
    refine zR ?_
    subst hFW;subst hFO
    refine At.retOA 997 (by rw [Tryz.results160]) hγ (hrows:=?_) (he:=?_)
    ·rw [hL.out]
    ·rw [hB.out,hL.out]<;>rfl
   ·rw [if_neg g3]at hL
    replace hB:=Lib.hid hB
    replace hL:=Lib.hid hL
    refine zR ?_
    subst hFW;subst hFO
    refine At.retOA 997 (by rw [Tryz.results160]) hγ (hrows:=?_) (he:=?_)
    ·rw [hL.out]
    ·rw [hB.out,hL.out]<;>rfl
  ·rw [decide_eq_false g2]at c4 hB hL
   rw [if_neg (by simp)]at hL
   replace hB:=Lib.hid hB
   replace hL:=Lib.hid hL
   refine zR ?_
   subst hFW;subst hFO
   refine At.retOA 997 (by rw [Tryz.results160]) hγ (hrows:=?_) (he:=?_)
   ·rw [hL.out]
   ·rw [hB.out,hL.out]<;>rfl
 ·rw [decide_eq_false g1]at c3 hB hL
  rw [if_neg (by simp)]at hL
  replace hB:=Lib.hid hB
  replace hL:=Lib.hid hL
  clear c4
  refine zR ?_
  subst hFW;subst hFO
  refine At.retOA 997 (by rw [Tryz.results160]) hγ (hrows:=?_) (he:=?_)
  ·rw [hL.out]
  ·rw [hB.out,hL.out]<;>rfl
end
section
abbrev pBk (b:TBlock):List PL:=[.sc (.int .i64 b.1.1),.sc (.int .i64 b.1.2.1),.sc (.string b.1.2.2.1),.sc (.string b.1.2.2.2.1),.sc (.string b.1.2.2.2.2.1),.sc (.string b.1.2.2.2.2.2),.sl (rowsF cVal b.2.1),.sl (rowsF cVal b.2.2.1),.sc (.int .i64 b.2.2.2.1),.sc (.int .i64 b.2.2.2.2.1),.sc (.string b.2.2.2.2.2.1),.sl (rowsF cCSig b.2.2.2.2.2.2)]
theorem ban_at {q:List TPeer}{m now id:Int}(h:tabOk (q,m)){k:Nat}(hk:k<q.length)(he:q[k].1=id):id∈banL q now↔now<q[k].2.2.1:=by
 rw [banL_mem,bnd_at h hk he]
 have hp:=(tabOk_at h hk).1
 have he':(q,m).1[k].1=id:=he
 rw [he']at hp
 constructor
 ·intro q
  exact of_decide_eq_true q.2
 ·intro q
  exact⟨hp,decide_eq_true q⟩
def asEvSpF0:List (List Nat):=[[],[0],[0,1],[0,1,2],[0,1,2,3],[0,1,2,3,4],[0,1,2,3,4,5],[0,1,2,3,4,5,6],[0,1,2,3,4,5,6,7],[0,1,2,3,4,5,6,7,8],[0,1,2,3,4,5,6,7,8,9],[0,1,2,3,4,5,6,7],[0,1,2,3,4,5,6,7,8,9,10,11],[0,1,2,3,4,5,6,7,8,9,10,11,12],[0,1,2,3,4,5,6,7,8,9,10,11,12,13],[0,1,2,3,4,5,6,7],[0,1,2,3,4,5,6,7,15],[0,1,2,3,4,5,6,7,8,9,10,11,12,13,14,15,16],[0,1,2,3,4,5,6,7,8,9,10,11,12,13,14,15,16,17]]
theorem feedS_s:SoundO Tryz.prog 163 (fun x:TFeed=>okFeed x) 30 6 (fun x=>hdRows x.1) (fun x=>[(true,pLt x.1 997),(false,[.sc (.int .i64 x.2.1)]),(true,pBk x.2.2)]) (fun x=>hdRows (feedX x.1 x.2.1 x.2.2)) (fun x=>[(true,pLt (feedX x.1 x.2.1 x.2.2) 997),(false,[.sc (.int .i64 (feedC x.1 x.2.1 x.2.2))])]):=by
 refine SoundO.of Tryz.func163 rfl Tryz.ntmps163 ?_
 rintro⟨⟨⟨p,s⟩,st,⟨⟨h1,h2,h3,h4,h5,h6⟩,v⟩,⟨l,n⟩,⟨q,m⟩,now⟩,id,⟨⟨h,t,la,va,ne,da⟩,b1,b2,⟨ch,cr,ci,cs⟩⟩⟩ γ0 w ⟨hx,⟨hb1,hb2,hb3⟩,hl20⟩ hγ
 refine⟨by simp,?_⟩
 simp only [frE,initO]
 generalize hFW:(fun k:Nat=>w.heap[k]?)=FW
 generalize hFO:(fun b:Nat=>γ0 b=some 998)=FO
 replace hx:lightOk ((p,s),st,((h1,h2,h3,h4,h5,h6),v),(l,n),(q,m),now):=hx
 replace hl20:l.length<20:=hl20
 dsimp only at hb1 hb2 hb3
 have hΓ:=env_cons (hsO Tryz.func209) atPS_s (env_cons (hsO Tryz.func66) verifyS_s (env_cons (hsO Tryz.func211) goodS_s (env_cons (hsO Tryz.func212) lieS_s env_nil)))
 have hn:=lightOk_len hx
 dsimp only at hn
 have hst:storeOk (l,n):=hx.2.2.1
 have htb:tabOk (q,m):=hx.2.2.2.1
 have hnow:0≤now∧now≤1000000:=hx.2.2.2.2.2.1
 have hpos:0<l.length:=hx.2.2.2.2.2.2.1
 have hlast:hdD l (l.length-1)=(h1,h2,h3,h4,h5,h6):=hx.2.2.2.2.2.2.2
 have c3:=mAtP_eq (q,m) id (show q.length≤_ by omega)
 have c6:=mVerify_eq (p,s) ((h1,h2,h3,h4,h5,h6),v) (h,t,la,va,ne,da) b2 (ch,cr,ci,cs) now ⟨show v.length≤_ by omega,hb2,hb3⟩
 have c9:=mGood_eq (q,m) id htb
 have c10:=mLie_eq (q,m) id now htb hnow
 have hno:feedNo ((p,s),st,((h1,h2,h3,h4,h5,h6),v),(l,n),(q,m),now) id→_:=fun h'=>feed_no (b:=((h,t,la,va,ne,da),b1,b2,(ch,cr,ci,cs))) h'
 have hgo:=fun a1 a2 a3=>feed_go (x:=((p,s),st,((h1,h2,h3,h4,h5,h6),v),(l,n),(q,m),now)) (id:=id) (b:=((h,t,la,va,ne,da),b1,b2,(ch,cr,ci,cs))) a1 a2 a3
 have hN:feedNo ((p,s),st,((h1,h2,h3,h4,h5,h6),v),(l,n),(q,m),now) id=(¬st=1∨atP q id<0∨id∈banL q now):=rfl
 rw [hN]at hno
 have hA:verifyA (p,s) ((h1,h2,h3,h4,h5,h6),v) (h,t,la,va,ne,da) b2 (ch,cr,ci,cs) now=if verifyC (p,s) ((h1,h2,h3,h4,h5,h6),v) (h,t,la,va,ne,da) b2 (ch,cr,ci,cs) now=0 then((h,t,la,va,ne,da),b2)else((h1,h2,h3,h4,h5,h6),v):=rfl
 rw [hA]at c6
 have hadd:verifyC (p,s) ((h1,h2,h3,h4,h5,h6),v) (h,t,la,va,ne,da) b2 (ch,cr,ci,cs) now=0→addSt (l,n) (h,t,la,va,ne,da)=((l++[(h,t,la,va,ne,da)],n),true):=fun hv=>by
  obtain⟨v1,v2,v3,v4,v5,v6⟩:=ver_zero hv
  exact addSt_yes hst hpos hl20 v1 (by rw [hlast];exact⟨v2,v4,v3,v5⟩)
 unfold verL feedY feedZ at hgo
 dsimp only at c3 hgo
 have hlen1:=rowsF_len cVal v
 have hlen2:=rowsF_len cHeader l
 have hlen3:=rowsF_len cPeer q
 have happ:=cHeader_app l (h,t,la,va,ne,da)
 dsimp only [lHd]at happ
 have hw:=atP_cases q id
 have hban:∀k,(hk:k<q.length)→q[k].1=id→(id∈banL q now↔now<q[k].2.2.1):=fun k hk he=>ban_at htb hk he
 have hpu:∀k,(hk:k<q.length)→0≤q[k].2.2.1∧q[k].2.2.1≤1000320:=fun k hk=>(tabOk_at htb hk).2.1
 clear hN hA hx hst htb hlast
 generalize hvc:verifyC (p,s) ((h1,h2,h3,h4,h5,h6),v) (h,t,la,va,ne,da) b2 (ch,cr,ci,cs) now=vc at*
 clear hvc
 generalize goodT (q,m) id=gt at*
 obtain⟨q1,m1⟩:=gt
 generalize lieT (q,m) id now=lt at*
 obtain⟨q2,m2⟩:=lt
 generalize atP q id=ap at*
 generalize banL q now=bl at*
 by_cases g1:st=1
 ·rcases hw with⟨k,hk,e1,e2⟩|e
  ·have hb:=hban k hk e2
   have hu:=hpu k hk
   have hrow:=cPeer_row q k hk
   have hkq:k<q.length:=hk
   clear hban hpu
   generalize q[k]=pk at*
   obtain⟨pi,pp,pu,pb⟩:=pk
   dsimp only at hb hrow e2 hu
   clear e2
   subst e1
   by_cases g3:now<pu
   ·have hv:=Lib.hid (hno (.inr (.inr (hb.2 g3))))
    clear hno hgo hadd hb
    subst g1
    refine zR ?_
    refine W.drawB hΓ 19 asEvSpF0 (Es:=?Es3) (rest:=?rest3) (st1:=?st13) ?_
    refine zQ ?_
    subst hFW;subst hFO
    refine At.retOA 997 (by rw [Tryz.results163]) hγ (hrows:=?_) (he:=?_)
    ·rw [hv.out.1]
    ·rw [hv.out.1,hv.out.2]<;>rfl
   ·have hv:=hgo g1 (by omega) (fun h=>g3 (hb.1 h))
    clear hno hgo hb
    subst g1
    by_cases g4:vc=0
    ·rw [if_pos g4]at hv c6
     rw [hadd g4]at hv
     replace hv:=Lib.hid hv
     clear hadd
     subst g4
     refine zR ?_
     refine W.drawB hΓ 19 asEvSpF0 (Es:=?Es7) (rest:=?rest7) (st1:=?st17) ?_
     refine zQ ?_
     refine At.frzX 6 6052 (h:=?_)
     refine At.frzX 6 96 (h:=?_)
     subst hFW;subst hFO
     refine At.retOA 997 (by rw [Tryz.results163]) hγ (hrows:=?_) (he:=?_)
     ·rw [hv.out.1]
     ·rw [hv.out.1,hv.out.2]<;>rfl
    ·rw [if_neg g4]at hv c6
     clear hadd
     by_cases g5:5≤vc
     ·rw [if_pos g5]at hv
      replace hv:=Lib.hid hv
      refine zR ?_
      refine W.drawB hΓ 19 asEvSpF0 (Es:=?Es11) (rest:=?rest11) (st1:=?st111) ?_
      refine zQ ?_
      refine At.frzX 6 111 (h:=?_)
      subst hFW;subst hFO
      refine At.retOA 997 (by rw [Tryz.results163]) hγ (hrows:=?_) (he:=?_)
      ·rw [hv.out.1]
      ·rw [hv.out.1,hv.out.2]<;>rfl
     ·rw [if_neg g5]at hv
      replace hv:=Lib.hid hv
      refine zR ?_
      refine W.drawB hΓ 19 asEvSpF0 (Es:=?Es15) (rest:=?rest15) (st1:=?st115) ?_
      refine zQ ?_
      subst hFW;subst hFO
      refine At.retOA 997 (by rw [Tryz.results163]) hγ (hrows:=?_) (he:=?_)
      ·rw [hv.out.1]
      ·rw [hv.out.1,hv.out.2]<;>rfl
  ·have hv:=Lib.hid (hno (.inr (.inl (by omega))))
   clear hno hgo hadd hban hpu
   subst g1
   subst e
   refine zR ?_
   refine W.drawB hΓ 19 asEvSpF0 (Es:=?Es19) (rest:=?rest19) (st1:=?st119) ?_
   refine zQ ?_
   subst hFW;subst hFO
   refine At.retOA 997 (by rw [Tryz.results163]) hγ (hrows:=?_) (he:=?_)
   ·rw [hv.out.1]
   ·rw [hv.out.1,hv.out.2]<;>rfl
 ·have hv:=Lib.hid (hno (.inl g1))
  clear hno hgo hadd hban hpu hw
  refine zR ?_
  refine W.drawB hΓ 19 asEvSpF0 (Es:=?Es23) (rest:=?rest23) (st1:=?st123) ?_
  refine zQ ?_
  subst hFW;subst hFO
  refine At.retOA 997 (by rw [Tryz.results163]) hγ (hrows:=?_) (he:=?_)
  ·rw [hv.out.1]
  ·rw [hv.out.1,hv.out.2]<;>rfl
end
section
abbrev pDs (d:TDesk)(k:Nat):List PL:=.sl (bkRows d.1)::.sc (.bool d.2.2)::pLt d.2.1 k
abbrev dkRows (d:TDesk):List (List Leaf):=hdRows d.2.1
def LtArg (w:ByteArray)(ns:List Int):Prop:=(w=peerW∧∃a,ns=[a])∨(w=tickW∧∃a,ns=[a])∨(w=tipW∧ns=[])∨(w=seenW∧∃a,ns=[a])∨(w=bannedW∧ns=[])∨(w=feedW∧∃a b,ns=[a,b])∨(w=lieW∧∃a b,ns=[a,b])
theorem num_peer (d:TDesk)(a:Int):numD d peerW [a]=if d.2.2=true then((d.1,peerX d.2.1 a,true),peerT d.2.1 a)else(d,noneW):=by
 show oneD d peerW a=_
 unfold oneD
 rw [if_neg (by decide),if_pos rfl]
theorem num_tick (d:TDesk)(a:Int):numD d tickW [a]=if d.2.2=true then((d.1,tickL d.2.1 a,true),tickT d.2.1 a)else(d,noneW):=by
 show oneD d tickW a=_
 unfold oneD
 rw [if_neg (by decide),if_neg (by decide),if_pos rfl]
theorem num_seen (d:TDesk)(a:Int):numD d seenW [a]=(d,if d.2.2=true then seenT d.2.1 a else noneW):=by
 show oneD d seenW a=_
 unfold oneD
 rw [if_neg (by decide),if_neg (by decide),if_neg (by decide),if_pos rfl]
theorem num_tip (d:TDesk):numD d tipW []=(d,if d.2.2=true then tipD d.2.1 else noneW):=by
 show(d,bareD d tipW)=_
 unfold bareD
 rw [if_neg (by decide),if_pos rfl]
theorem num_banned (d:TDesk):numD d bannedW []=(d,if d.2.2=true then banD d.2.1 else noneW):=by
 show(d,bareD d bannedW)=_
 unfold bareD
 rw [if_neg (by decide),if_neg (by decide),if_pos rfl]
theorem num_feed (d:TDesk)(a b:Int):numD d feedW [a,b]=feedD d a b false:=by
 show twoD d feedW a b=_
 unfold twoD
 rw [if_neg (by decide),if_pos rfl]
theorem num_lie (d:TDesk)(a b:Int):numD d lieW [a,b]=feedD d a b true:=by
 show twoD d lieW a b=_
 unfold twoD
 rw [if_neg (by decide),if_neg (by decide),if_pos rfl]
theorem num_off {d:TDesk}{w:ByteArray}{ns:List Int}(h:LtArg w ns)(hs:d.2.2=false):numD d w ns=(d,noneW):=by
 have hn:¬d.2.2=true:=fun e=>by rw [hs]at e;cases e
 rcases h with⟨rfl,a,rfl⟩|⟨rfl,a,rfl⟩|⟨rfl,rfl⟩|⟨rfl,a,rfl⟩|⟨rfl,rfl⟩|⟨rfl,a,b,rfl⟩|⟨rfl,a,b,rfl⟩
 ·rw [num_peer,if_neg hn]
 ·rw [num_tick,if_neg hn]
 ·rw [num_tip,if_neg hn]
 ·rw [num_seen,if_neg hn]
 ·rw [num_banned,if_neg hn]
 ·rw [num_feed]
  exact if_neg (fun q=>hn q.1)
 ·rw [num_lie]
  exact if_neg (fun q=>hn q.1)
def LtOne (w:ByteArray)(ns:List Int):Prop:=(w=peerW∧∃a,ns=[a])∨(w=tickW∧∃a,ns=[a])∨(w=tipW∧ns=[])∨(w=seenW∧∃a,ns=[a])∨(w=bannedW∧ns=[])
def LtFd (w:ByteArray)(ns:List Int):Prop:=w=feedW∧∃a b,ns=[a,b]
def LtLi (w:ByteArray)(ns:List Int):Prop:=w=lieW∧∃a b,ns=[a,b]
theorem LtOne.arg {w:ByteArray}{ns:List Int}(h:LtOne w ns):LtArg w ns:=by
 rcases h with h|h|h|h|h
 ·exact .inl h
 ·exact .inr (.inl h)
 ·exact .inr (.inr (.inl h))
 ·exact .inr (.inr (.inr (.inl h)))
 ·exact .inr (.inr (.inr (.inr (.inl h))))
theorem LtFd.arg {w:ByteArray}{ns:List Int}(h:LtFd w ns):LtArg w ns:=.inr (.inr (.inr (.inr (.inr (.inl h)))))
theorem LtLi.arg {w:ByteArray}{ns:List Int}(h:LtLi w ns):LtArg w ns:=.inr (.inr (.inr (.inr (.inr (.inr h)))))
theorem LtArg.ways {w:ByteArray}{ns:List Int}(h:LtArg w ns):LtOne w ns∨LtFd w ns∨LtLi w ns:=by
 rcases h with h|h|h|h|h|h|h
 ·exact .inl (.inl h)
 ·exact .inl (.inr (.inl h))
 ·exact .inl (.inr (.inr (.inl h)))
 ·exact .inl (.inr (.inr (.inr (.inl h))))
 ·exact .inl (.inr (.inr (.inr (.inr h))))
 ·exact .inr (.inl h)
 ·exact .inr (.inr h)
abbrev TNum:=TDesk×ByteArray×List Int
abbrev encNum (x:TNum):List (Bool×List PL):=[(true,pDs x.1 997),(false,[.sc (.string x.2.1)]),(false,[.sl (rowsF cInt x.2.2)])]
noncomputable abbrev resNum (x:TNum):List (Bool×List PL):=[(true,pDs (numD x.1 x.2.1 x.2.2).1 997),(false,[.sc (.string (numD x.1 x.2.1 x.2.2).2)])]
end
section
theorem num_wrong (d:TDesk){w:ByteArray}{ns:List Int}(h:¬argN w=(ns.length:Int)∨w=chainW):numD d w ns=(d,whatW):=by
 match ns,h with
 |[],h=>
  have key:∀u:ByteArray,argN u=0→¬u=chainW→¬w=u:=fun u h1 h2 e=>by
   subst e
   rcases h with h|h
   ·exact h h1
   ·exact h2 h
  show(d,bareD d w)=_
  unfold bareD
  rw [if_neg (key rootW (by decide) (by decide)),if_neg (key tipW (by decide) (by decide)),if_neg (key bannedW (by decide) (by decide))]
 |[a],h=>
  have key:∀u:ByteArray,argN u=1→¬u=chainW→¬w=u:=fun u h1 h2 e=>by
   subst e
   rcases h with h|h
   ·exact h h1
   ·exact h2 h
  show oneD d w a=_
  unfold oneD
  rw [if_neg (key proofW (by decide) (by decide)),if_neg (key peerW (by decide) (by decide)),if_neg (key tickW (by decide) (by decide)),if_neg (key seenW (by decide) (by decide))]
 |[a,b],h=>
  have key:∀u:ByteArray,argN u=2→¬u=chainW→¬w=u:=fun u h1 h2 e=>by
   subst e
   rcases h with h|h
   ·exact h h1
   ·exact h2 h
  show twoD d w a b=_
  unfold twoD
  rw [if_neg (key startW (by decide) (by decide)),if_neg (key feedW (by decide) (by decide)),if_neg (key lieW (by decide) (by decide))]
 |_::_::_::_,_=>rfl
theorem numsL_len (l:List ByteArray):(numsL l).length=l.length:=by unfold numsL;rw [List.length_map]
theorem line_eq (d:TDesk)(w:ByteArray)(r:List ByteArray):lineD d (w::r)=if w=chainW∧r.length=2 then chD d (r.getD 0 ByteArray.empty) (r.getD 1 ByteArray.empty)else if numsB r=true then numD d w (numsL r)else(d,whatW):=rfl
theorem line_bad (d:TDesk){w:ByteArray}{r:List ByteArray}(h:argN w<0∨¬((r.length:Int)+1=argN w+(if w=chainW then 2 else 1))):lineD d (w::r)=(d,whatW):=by
 have hc:argN chainW=1:=by decide
 rw [line_eq,if_neg (fun q=>by
  obtain⟨rfl,q2⟩:=q
  rw [if_pos rfl,hc,q2]at h
  omega)]
 split
 ·refine num_wrong d ?_
  rw [numsL_len]
  by_cases e:w=chainW
  ·exact .inr e
  ·rw [if_neg e]at h
   exact .inl (by omega)
 ·rfl
theorem arg_ways (w:ByteArray)(h:0≤argN w):w=chainW∨(¬w=chainW∧((w=startW∧argN w=2)∨(w=rootW∧argN w=0)∨(w=proofW∧argN w=1)))∨(¬w=chainW∧(¬w=startW∧¬w=rootW∧¬w=proofW)∧((w=peerW∧argN w=1)∨(w=tickW∧argN w=1)∨(w=tipW∧argN w=0)∨(w=seenW∧argN w=1)∨(w=bannedW∧argN w=0)∨(w=feedW∧argN w=2)∨(w=lieW∧argN w=2))):=by
 by_cases e1:w=chainW
 ·exact .inl e1
 by_cases e2:w=startW
 ·subst e2;exact .inr (.inl ⟨e1,.inl ⟨rfl,by decide⟩⟩)
 by_cases e3:w=rootW
 ·subst e3;exact .inr (.inl ⟨e1,.inr (.inl ⟨rfl,by decide⟩)⟩)
 by_cases e4:w=proofW
 ·subst e4;exact .inr (.inl ⟨e1,.inr (.inr ⟨rfl,by decide⟩)⟩)
 refine .inr (.inr ⟨e1,⟨e2,e3,e4⟩,?_⟩)
 by_cases e5:w=peerW
 ·subst e5;exact .inl ⟨rfl,by decide⟩
 by_cases e6:w=tickW
 ·subst e6;exact .inr (.inl ⟨rfl,by decide⟩)
 by_cases e7:w=tipW
 ·subst e7;exact .inr (.inr (.inl ⟨rfl,by decide⟩))
 by_cases e8:w=seenW
 ·subst e8;exact .inr (.inr (.inr (.inl ⟨rfl,by decide⟩)))
 by_cases e9:w=bannedW
 ·subst e9;exact .inr (.inr (.inr (.inr (.inl ⟨rfl,by decide⟩))))
 by_cases e10:w=feedW
 ·subst e10;exact .inr (.inr (.inr (.inr (.inr (.inl ⟨rfl,by decide⟩)))))
 by_cases e11:w=lieW
 ·subst e11;exact .inr (.inr (.inr (.inr (.inr (.inr ⟨rfl,by decide⟩)))))
 have:argN w= -1:=by
  unfold argN
  rw [if_neg e7,if_neg e9,if_neg e3,if_neg e5,if_neg e6,if_neg e8,if_neg e4,if_neg e1,if_neg e2,if_neg e10,if_neg e11]
 omega
end
end Go.Proofs.YtfgkfcfplodaoaaGreatDoor
