/-
  Put together out of 2 texts.
-/
import Derived.Test.YtfgkfcfplodaoaaGreatDoorG17
import Derived.Test.YtfgkfcfplodaoaaGreatDoorG15
import Derived.Test.YtfgkfcfplodaoaaGreatDoorG24
set_option linter.unusedSimpArgs false
set_option linter.unusedVariables false
set_option maxRecDepth 100000
set_option maxHeartbeats 8000000
namespace Go.Proofs.YtfgkfcfplodaoaaGreatDoor
open Go Go.RowKit
section
noncomputable def mBlkI:=mdl (fun x:W8×ByteArray=>x.1.ok∧x.2.size=64) (fun x=>[aW x.1,aS x.2]) fun x=>rW (block x.1 x.2)
theorem mBlkI_eq (v:W8)(s:ByteArray)(h:v.ok)(hs:s.size=64):mBlkI [aW v,aS s]=some (rW (block v s)):=mdl_eq (by
 rintro⟨⟨a,b,c,d,e,f,g,q⟩,x⟩ ⟨⟨a',b',c',d',e',f',g',q'⟩,y⟩ h
 simp at h
 obtain⟨⟨h1,h2,h3,h4,h5,h6,h7,h8⟩,rfl⟩:=h
 have e1:a=a':=by omega
 have e2:b=b':=by omega
 have e3:c=c':=by omega
 have e4:d=d':=by omega
 have e5:e=e':=by omega
 have e6:f=f':=by omega
 have e7:g=g':=by omega
 have e8:q=q':=by omega
 rw [e1,e2,e3,e4,e5,e6,e7,e8]) (v,s) ⟨h,hs⟩
theorem shaImpl_s:Sound Tryz.prog 180 mSha:=by
 refine Sound.mdl Tryz.func180 rfl Tryz.ntmps180 ?_
 rintro s w hs
 refine⟨by simp,?_⟩
 replace hs:s.size≤16777216:=hs
 have hΓ:GSound Tryz.prog (look [(225,mBlkI),(224,mFixed)]):=env_cons (hsO Tryz.func225) blockI_s (env_cons (hsO Tryz.func224) fixed_s env_nil)
 have t1:((s.size:Int)+9).tmod 64=(((s.size+9)%64:Nat):Int):=by rw [Int.tmod_eq_emod_of_nonneg (by omega)];omega
 have t2:((64:Int)-(((s.size+9)%64:Nat):Int)).tmod 64=((zPd s.size:Nat):Int):=by rw [Int.tmod_eq_emod_of_nonneg (by omega)];unfold zPd;omega
 have t3:((zPd s.size:Nat):Int)+1=((zPd s.size+1:Nat):Int):=by omega
 have t4:(8:Int)*(s.size:Int)=((8*s.size:Nat):Int):=by omega
 have hz63:zPd s.size≤63:=by unfold zPd;omega
 have hzr:List.replicate (zPd s.size+1) [Leaf.sc (.int .u8 0)]=rowsF cU8 (List.replicate (zPd s.size+1) 0):=(rowsF_repU _ _).symm
 have hb:=bytes_rows (List.replicate (zPd s.size+1) 0)
 have c1:=mFixed7 (8*s.size) (by omega)
 have hp:s++(⟨#[128]⟩:ByteArray)++(⟨((List.replicate (zPd s.size+1) 0).map UInt8.ofNat).toArray⟩:ByteArray)++bsS (fixB 7 (8*s.size))=padS s:=padS_impl hs
 have s1:(s++(⟨#[128]⟩:ByteArray)).size=s.size+1:=by rw [ByteArray.size_append];rfl
 have s0:(⟨#[128]⟩:ByteArray).size=1:=rfl
 have s2:(⟨((List.replicate (zPd s.size+1) 0).map UInt8.ofNat).toArray⟩:ByteArray).size=zPd s.size+1:=by
  have:=bsS_size (List.replicate (zPd s.size+1) 0)
  rw [List.length_replicate]at this
  exact this
 have s3:=bsA (a:=s++(⟨#[128]⟩:ByteArray)) (b:=⟨((List.replicate (zPd s.size+1) 0).map UInt8.ofNat).toArray⟩)
 have s4:(bsS (fixB 7 (8*s.size))).size=7:=by rw [bsS_size,fixB_len]
 refine zJ ?_
 refine W.drawB hΓ 11 [[],[0],[],[2],[2,3],[2,3,4],[0,1,2,3,4,5],[],[7],[0,1,2,3,4,5,6,7,8],[0,1,2,3,4,5,6,7,8,9]] (Es:=?Es4) (rest:=?rest4) (st1:=?st14) ?_
 refine zQ ?_
 obtain⟨q,hq,hq2⟩:=padS_64 s
 have hfin:shaS s=bsS (outL (foldK (padS s) q) 8):=by unfold shaS shaW8;rw [hq,Nat.mul_div_cancel_left _ (by omega)]
 clear t1 t2 t3 t4 hz63 hzr hb c1 hp s1 s0 s2 s3 s4
 generalize padS s=T at*
 refine W.loopA (fun j=>j≤q) (fun j:Nat=>[.slot 7 (vI ((64*j:Nat):Int)),.slot 5 (vS T),.slot 6 (one (.ptr 6 0)),.blk 6 (.box (foldK T j).pl)]) (fun j=>q-j) 0 (Nat.zero_le _) (h:=?_)
 rintro j hj
 by_cases hlt:j<q
 ·have hx:(T.extract (64*j) (64*j+64)).size=64:=by rw [ByteArray.size_extract];omega
  have cb:=mBlkI_eq (foldK T j) (T.extract (64*j) (64*j+64)) (foldK_ok T j) hx
  have hnx:foldK T (j+1)=block (foldK T j) (T.extract (64*j) (64*j+64)):=rfl
  have e1:((64*j:Nat):Int)+64=((64*j+64:Nat):Int):=by omega
  have e2:((64*(j+1):Nat):Int)=((64*j+64:Nat):Int):=by omega
  generalize foldK T j=v at*
  obtain⟨a,b,c,d,e,f,g,p⟩:=v
  dsimp only [aW,rW]at cb
  generalize hX:T.extract (64*j) (64*j+64)=X at*
  have hpl:(foldK T (j+1)).pl=[pU (block ⟨a,b,c,d,e,f,g,p⟩ X).a,pU (block ⟨a,b,c,d,e,f,g,p⟩ X).b,pU (block ⟨a,b,c,d,e,f,g,p⟩ X).c,pU (block ⟨a,b,c,d,e,f,g,p⟩ X).d,pU (block ⟨a,b,c,d,e,f,g,p⟩ X).e,pU (block ⟨a,b,c,d,e,f,g,p⟩ X).f,pU (block ⟨a,b,c,d,e,f,g,p⟩ X).g,pU (block ⟨a,b,c,d,e,f,g,p⟩ X).h]:=by rw [hnx]
  clear hnx
  refine zR ?_
  refine W.drawB hΓ 7 [[],[],[],[],[3],[1,2,3,4],[0,1,2,3,4,5],[0,1,2,3,4,5,6]] (Es:=?Es7) (rest:=?rest7) (st1:=?st17) ?_
  refine zQ ?_
  exact At.roundA (j+1) (by omega) (by omega)
 have hjq:j=q:=by omega
 subst hjq
 have hvok:=foldK_ok T j
 generalize foldK T j=v at*
 have hz:shaS s=bsS (outL v 8):=hfin
 obtain⟨a,b,c,d,e,f,g,p⟩:=v
 have hlst:∀k,k<8→([pU a,pU b,pU c,pU d,pU e,pU f,pU g,pU p]:List PL)[k]?=some (pU ((W8.lst ⟨a,b,c,d,e,f,g,p⟩).getD k 0)):=fun k hk=>boxU_get (W8.lst_get ⟨a,b,c,d,e,f,g,p⟩ hk)
 have hout:=fun k (hk:k<8)=>outL_succ ⟨a,b,c,d,e,f,g,p⟩ hk
 have hlen:=fun k (hk:k≤8)=>outL_len ⟨a,b,c,d,e,f,g,p⟩ k hk
 have hlt4:=fun k=>W8.lst_lt hvok k
 have ho0:outL ⟨a,b,c,d,e,f,g,p⟩ 0=[]:=rfl
 clear hfin hvok
 generalize W8.lst ⟨a,b,c,d,e,f,g,p⟩=V at hlst hout hlt4
 generalize hO:outL ⟨a,b,c,d,e,f,g,p⟩=O at*
 have hb0:(⟨#[]⟩:ByteArray)=bsS (O 0):=by rw [ho0];rfl
 have hemp:bsS (O 0)=ByteArray.empty:=hb0.symm
 clear hO ho0
 refine zR ?_
 refine W.loopA (fun k=>k≤8) (fun k:Nat=>[.slot 45 (vI k),.slot 44 (.comp true [pU a,pU b,pU c,pU d,pU e,pU f,pU g,pU p]),.slot 8 (vS (bsS (O k)))]) (fun k=>8-k) 0 (Nat.zero_le _) (h:=?_)
 clear hb0 hemp
 rintro k hk
 by_cases hlt8:k<8
 ·have g1:=hlst k hlt8
  have b1:=hlt4 k
  have hs1:=hout k hlt8
  have hln:=hlen k hk
  clear hlst hout hlen hlt4
  generalize V.getD k 0=x at*
  have cf:=mFixed4 x b1
  have hap:bsS (O k)++bsS (fixB 4 x)=bsS (O (k+1)):=by rw [bsS_app,hs1]
  have z1:(bsS (O k)).size=4*k:=by rw [bsS_size,hln]
  have z2:(bsS (fixB 4 x)).size=4:=by rw [bsS_size,fixB_len]
  clear hs1
  refine zR ?_
  exact At.roundA (k+1) (by omega) (by omega)
 have hk8:k=8:=by omega
 subst hk8
 clear hlst hout hlen hlt4
 refine zR ?_
 refine At.retA (by rw [Tryz.results180]) (he:=?_)
 rw [hz]
end
section
def shortS (s:ByteArray):ByteArray:=(shaS s).extract 0 8
theorem shortS_size (s:ByteArray):(shortS s).size=8:=by unfold shortS;rw [ByteArray.size_extract,shaS_size];rfl
noncomputable def mShort:=mdl (fun s:ByteArray=>s.size≤16777216) (fun s=>[aS s]) (fun s=>rS (shortS s))
theorem mShort_eq (s:ByteArray)(h:s.size≤16777216):mShort [aS s]=some (rS (shortS s)):=mdl_eq (by intro a b h;simpa using h) s h
theorem short_s:Sound Tryz.prog 51 mShort:=by
 refine Sound.mdl Tryz.func51 rfl Tryz.ntmps51 ?_
 rintro s w hs
 refine⟨by simp,?_⟩
 replace hs:s.size≤16777216:=hs
 have hΓ:=env_cons (hsO Tryz.func40) shaSpec_s env_nil
 have c1:=mSha_eq s hs
 have hz:=shaS_size s
 refine zJ ?_
 refine At.retA (by rw [Tryz.results51]) (he:=rfl)
theorem shortI_s:Sound Tryz.prog 187 mShort:=by
 refine Sound.mdl Tryz.func187 rfl Tryz.ntmps187 ?_
 rintro s w hs
 refine⟨by simp,?_⟩
 replace hs:s.size≤16777216:=hs
 have hΓ:=env_cons (hsO Tryz.func180) shaImpl_s env_nil
 have c1:=mSha_eq s hs
 have hz:=shaS_size s
 refine zJ ?_
 refine At.retA (by rw [Tryz.results187]) (he:=rfl)
end
end Go.Proofs.YtfgkfcfplodaoaaGreatDoor
