/-
  Put together out of 4 texts.
-/
import Derived.Test.YtfgkfcfplodaoaaGreatDoorK17
import Derived.Test.YtfgkfcfplodaoaaGreatDoorK18
import Derived.Test.YtfgkfcfplodaoaaGreatDoorK19
import Derived.Test.YtfgkfcfplodaoaaGreatDoorK16
import Derived.Test.YtfgkfcfplodaoaaGreatDoorK15
import Derived.Test.YtfgkfcfplodaoaaGreatDoorG20
import Derived.Test.YtfgkfcfplodaoaaGreatDoorK10
import Derived.Test.YtfgkfcfplodaoaaGreatDoorG13
import Derived.Test.YtfgkfcfplodaoaaGreatDoorK14
set_option linter.unusedSimpArgs false
set_option linter.unusedVariables false
set_option maxRecDepth 100000
set_option maxHeartbeats 64000000
namespace Go.Proofs.YtfgkfcfplodaoaaGreatDoor
open Go Go.RowKit
section
theorem lightD_s:SoundO Tryz.prog 112 (fun x:TNum=>deskOk x.1∧LtArg x.2.1 x.2.2) 30 6 (fun x=>dkRows x.1) encNum (fun x=>dkRows (numD x.1 x.2.1 x.2.2).1) resNum:=by
 intro x η γ0 vs w ⟨h1,h2⟩
 rcases h2.ways with h|h|h
 ·exact lightE_s x η γ0 vs w ⟨h1,h⟩
 ·exact lightF_s x η γ0 vs w ⟨h1,h⟩
 ·exact lightL_s x η γ0 vs w ⟨h1,h⟩
end
section
abbrev TLn:=TDesk×ByteArray
abbrev encLn (x:TLn):List (Bool×List PL):=[(true,pDs x.1 997),(false,[.sc (.string x.2)])]
noncomputable abbrev resLn (x:TLn):List (Bool×List PL):=[(true,pDs (lineD x.1 (splitS x.2 32)).1 997),(false,[.sc (.string (lineD x.1 (splitS x.2 32)).2)])]
theorem numsB_cons (a:ByteArray)(l:List ByteArray):numsB (a::l)=((readZ a).2&&numsB l):=rfl
theorem len_two (l:List Int)(h:l.length=2):∃x y,l=[x,y]:=by
 match l,h with
 |[x,y],_=>exact⟨x,y,rfl⟩
theorem argN_le (w:ByteArray):argN w≤2:=by
 unfold argN
 repeat' split
 all_goals omega
theorem lt_arg {w:ByteArray}{ns:List Int}{a:Nat}(hl:ns.length=a)(h:(w=peerW∧(a:Int)=1)∨(w=tickW∧(a:Int)=1)∨(w=tipW∧(a:Int)=0)∨(w=seenW∧(a:Int)=1)∨(w=bannedW∧(a:Int)=0)∨(w=feedW∧(a:Int)=2)∨(w=lieW∧(a:Int)=2)):LtArg w ns:=by
 have k0:(a:Int)=0→ns=[]:=fun h=>List.length_eq_zero_iff.1 (by omega)
 have k1:(a:Int)=1→∃x,ns=[x]:=fun h=>List.length_eq_one_iff.1 (by omega)
 have k2:(a:Int)=2→∃x y,ns=[x,y]:=fun h=>len_two _ (by omega)
 rcases h with⟨e,h⟩|⟨e,h⟩|⟨e,h⟩|⟨e,h⟩|⟨e,h⟩|⟨e,h⟩|⟨e,h⟩
 ·exact .inl ⟨e,k1 h⟩
 ·exact .inr (.inl ⟨e,k1 h⟩)
 ·exact .inr (.inr (.inl ⟨e,k0 h⟩))
 ·exact .inr (.inr (.inr (.inl ⟨e,k1 h⟩)))
 ·exact .inr (.inr (.inr (.inr (.inl ⟨e,k0 h⟩))))
 ·exact .inr (.inr (.inr (.inr (.inr (.inl ⟨e,k2 h⟩)))))
 ·exact .inr (.inr (.inr (.inr (.inr (.inr ⟨e,k2 h⟩)))))
theorem ch_arg {w:ByteArray}{ns:List Int}{a:Nat}(hl:ns.length=a)(h:(w=startW∧(a:Int)=2)∨(w=rootW∧(a:Int)=0)∨(w=proofW∧(a:Int)=1)):ChArg w ns:=by
 have k0:(a:Int)=0→ns=[]:=fun h=>List.length_eq_zero_iff.1 (by omega)
 have k1:(a:Int)=1→∃x,ns=[x]:=fun h=>List.length_eq_one_iff.1 (by omega)
 have k2:(a:Int)=2→∃x y,ns=[x,y]:=fun h=>len_two _ (by omega)
 rcases h with⟨e,h⟩|⟨e,h⟩|⟨e,h⟩
 ·exact .inl ⟨e,k2 h⟩
 ·exact .inr (.inl ⟨e,k0 h⟩)
 ·exact .inr (.inr ⟨e,k1 h⟩)
theorem line_num (d:TDesk){w:ByteArray}(r:List ByteArray)(h:¬w=chainW):lineD d (w::r)=if numsB r=true then numD d w (numsL r)else(d,whatW):=by
 rw [line_eq,if_neg (fun q=>h q.1)]
theorem lineS_s:SoundO Tryz.prog 53 (fun x:TLn=>deskOk x.1∧x.2.size≤1048576) 30 6 (fun x=>dkRows x.1) encLn (fun x=>dkRows (lineD x.1 (splitS x.2 32)).1) resLn:=by
 refine SoundO.of Tryz.func53 rfl Tryz.ntmps53 ?_
 rintro⟨⟨L,⟨⟨p,s⟩,st,⟨⟨h1,h2,h3,h4,h5,h6⟩,v⟩,⟨l,n⟩,⟨q,m⟩,now⟩,hs⟩,t⟩ γ0 w ⟨hx,hz⟩ hγ
 refine⟨by simp,?_⟩
 simp only [frE,initO]
 generalize hFW:(fun k:Nat=>w.heap[k]?)=FW
 generalize hFO:(fun b:Nat=>γ0 b=some 998)=FO
 replace hx:deskOk (L,((p,s),st,((h1,h2,h3,h4,h5,h6),v),(l,n),(q,m),now),hs):=hx
 replace hz:t.size≤1048576:=hz
 have hΓ:=env_cons (hsO Tryz.func108) words_s (env_cons (hsO Tryz.func109) args_s (env_cons (hsO Tryz.func110) readS_s (env_cons (hsO Tryz.func10) chain_s (env_cons (hsO Tryz.func41) decZS_s env_nil))))
 have hCh:Has Tryz.prog 111:=hsO Tryz.func111
 have hLt:Has Tryz.prog 112:=hsO Tryz.func112
 have c1:=mWords_eq t hz
 obtain⟨⟨u0,u1⟩,u2⟩:=splitS_small t 32
 have hrs:resLn ((L,((p,s),st,((h1,h2,h3,h4,h5,h6),v),(l,n),(q,m),now),hs),t)=[(true,pDs (lineD (L,((p,s),st,((h1,h2,h3,h4,h5,h6),v),(l,n),(q,m),now),hs) (splitS t 32)).1 997),(false,[.sc (.string (lineD (L,((p,s),st,((h1,h2,h3,h4,h5,h6),v),(l,n),(q,m),now),hs) (splitS t 32)).2)])]:=rfl
 replace hrs:=Lib.hid hrs
 (try dsimp only)
 generalize splitS t 32=W at*
 obtain⟨w0,r,rfl⟩:∃w0 r,W=w0::r:=by
  cases W with
  |nil=>exact absurd u0 (by simp)
  |cons a b=>exact⟨a,b,rfl⟩
 have hrl:r.length≤1048576:=by simp only [List.length_cons]at u1;omega
 have hru:∀x∈r,x.size≤1048576:=fun x hx=>by have:=u2 x (List.mem_cons_of_mem _ hx);omega
 have hr0:(rowsF cStr (w0::r))[0]?=some [.sc (.string w0)]:=rfl
 have hlenR:(rowsF cStr (w0::r)).length=r.length+1:=rowsF_len cStr (w0::r)
 have hrow:∀k,(h:k<r.length)→(rowsF cStr (w0::r))[k+1]?=some [.sc (.string r[k])]:=fun k h=>rowsF_get cStr (w0::r) (k+1) (by simp only [List.length_cons];omega)
 have c2:=mArgN_eq w0
 have hA2:=argN_le w0
 clear u0 u1 u2 hz
 have hbad:∀F:Int,((w0=chainW∧F=2)∨(¬w0=chainW∧F=1))→(argN w0<0∨¬((r.length:Int)+1=argN w0+F))→lineD (L,((p,s),st,((h1,h2,h3,h4,h5,h6),v),(l,n),(q,m),now),hs) (w0::r)=((L,((p,s),st,((h1,h2,h3,h4,h5,h6),v),(l,n),(q,m),now),hs),whatW):=fun F hF h=>line_bad _ (by
  rcases hF with⟨h1,rfl⟩|⟨h1,rfl⟩
  ·rw [if_pos h1];exact h
  ·rw [if_neg h1];exact h)
 have hways:=arg_ways w0
 generalize hR:rowsF cStr (w0::r)=R at*
 generalize hA:argN w0=A at*
 refine zR ?_
 refine W.frzA 6 19 (h:=?_)
 refine zR ?_
 refine W.subA [.blk 998 (.arr (.fr FO FW) 0 1 []),.blk 997 (.arr .ft 30 6 (rowsF cHeader l)),.slot 2 (one (.ptr 2 0)),.blk 2 (.box [.sl (bkRows L),.sc (.bool hs),.sc (.int .i64 p),.sc (.int .i64 s),.sc (.int .i64 st),.sc (.int .i64 h1),.sc (.int .i64 h2),.sc (.string h3),.sc (.string h4),.sc (.string h5),.sc (.string h6),.sl (rowsF cVal v),.all 997,.sc (.int .i64 n),.sl (rowsF cPeer q),.sc (.int .i64 m),.sc (.int .i64 now)]),.slot 4 (one (.ptr 4 0)),.blk 4 (.box [.nil,.sc (.bool false),.sc (.int .i64 0),.sc (.int .i64 0),.sc (.int .i64 0),.sc (.int .i64 0),.sc (.int .i64 0),.sc (.string ByteArray.empty),.sc (.string ByteArray.empty),.sc (.string ByteArray.empty),.sc (.string ByteArray.empty),.nil,.nil,.sc (.int .i64 0),.nil,.sc (.int .i64 0),.sc (.int .i64 0)]),.slot 6 (one (.sl R)),.slot 7 (one (.sc (.string w0))),.slot 8 (vI A),.slot 9 (vI 1),.slot 26 (one (.sc (.bool (decide (w0=((⟨#[99,104,97,105,110]⟩:ByteArray)))))))] (h:=?_)
 replace hbad:=Lib.hid hbad
 replace hways:=Lib.hid hways
 replace hrow:=Lib.hid hrow
 replace hrs:=Lib.hid hrs
 replace hR:=Lib.hid hR
 replace hA:=Lib.hid hA
 replace hlenR:=Lib.hid hlenR
 refine W.meet2 (c:=?codeK) (Q:=?postK) (fun F:Int=>(w0=chainW∧F=2)∨(¬w0=chainW∧F=1)) (fun F=>[.blk 998 (.arr (.fr FO FW) 0 1 []),.blk 997 (.arr .ft 30 6 (rowsF cHeader l)),.slot 2 (one (.ptr 2 0)),.blk 2 (.box [.sl (bkRows L),.sc (.bool hs),.sc (.int .i64 p),.sc (.int .i64 s),.sc (.int .i64 st),.sc (.int .i64 h1),.sc (.int .i64 h2),.sc (.string h3),.sc (.string h4),.sc (.string h5),.sc (.string h6),.sl (rowsF cVal v),.all 997,.sc (.int .i64 n),.sl (rowsF cPeer q),.sc (.int .i64 m),.sc (.int .i64 now)]),.slot 4 (one (.ptr 4 0)),.blk 4 (.box [.nil,.sc (.bool false),.sc (.int .i64 0),.sc (.int .i64 0),.sc (.int .i64 0),.sc (.int .i64 0),.sc (.int .i64 0),.sc (.string ByteArray.empty),.sc (.string ByteArray.empty),.sc (.string ByteArray.empty),.sc (.string ByteArray.empty),.nil,.nil,.sc (.int .i64 0),.nil,.sc (.int .i64 0),.sc (.int .i64 0)]),.slot 6 (one (.sl R)),.slot 7 (one (.sc (.string w0))),.slot 8 (vI A),.slot 9 (vI F)]) ?mainK ?partK
 case mainK=>
  intro key
  by_cases e:w0=chainW
  ·have t1:decide (w0=(⟨#[99,104,97,105,110]⟩:ByteArray))=true:=dcT e
   have hk:=key 2 (.inl ⟨e,rfl⟩)
   clear e key
   refine zR ?_
   refine W.subA [.blk 998 (.arr (.fr FO FW) 0 1 []),.blk 997 (.arr .ft 30 6 (rowsF cHeader l)),.slot 2 (one (.ptr 2 0)),.blk 2 (.box [.sl (bkRows L),.sc (.bool hs),.sc (.int .i64 p),.sc (.int .i64 s),.sc (.int .i64 st),.sc (.int .i64 h1),.sc (.int .i64 h2),.sc (.string h3),.sc (.string h4),.sc (.string h5),.sc (.string h6),.sl (rowsF cVal v),.all 997,.sc (.int .i64 n),.sl (rowsF cPeer q),.sc (.int .i64 m),.sc (.int .i64 now)]),.slot 4 (one (.ptr 4 0)),.blk 4 (.box [.nil,.sc (.bool false),.sc (.int .i64 0),.sc (.int .i64 0),.sc (.int .i64 0),.sc (.int .i64 0),.sc (.int .i64 0),.sc (.string ByteArray.empty),.sc (.string ByteArray.empty),.sc (.string ByteArray.empty),.sc (.string ByteArray.empty),.nil,.nil,.sc (.int .i64 0),.nil,.sc (.int .i64 0),.sc (.int .i64 0)]),.slot 6 (one (.sl R)),.slot 7 (one (.sc (.string w0))),.slot 8 (vI A),.slot 9 (vI 2)] (h:=?_)
   exact hk
  ·have t1:decide (w0=(⟨#[99,104,97,105,110]⟩:ByteArray))=false:=dcF e
   have hk:=key 1 (.inr ⟨e,rfl⟩)
   clear e key
   refine zR ?_
   refine W.subA [.blk 998 (.arr (.fr FO FW) 0 1 []),.blk 997 (.arr .ft 30 6 (rowsF cHeader l)),.slot 2 (one (.ptr 2 0)),.blk 2 (.box [.sl (bkRows L),.sc (.bool hs),.sc (.int .i64 p),.sc (.int .i64 s),.sc (.int .i64 st),.sc (.int .i64 h1),.sc (.int .i64 h2),.sc (.string h3),.sc (.string h4),.sc (.string h5),.sc (.string h6),.sl (rowsF cVal v),.all 997,.sc (.int .i64 n),.sl (rowsF cPeer q),.sc (.int .i64 m),.sc (.int .i64 now)]),.slot 4 (one (.ptr 4 0)),.blk 4 (.box [.nil,.sc (.bool false),.sc (.int .i64 0),.sc (.int .i64 0),.sc (.int .i64 0),.sc (.int .i64 0),.sc (.int .i64 0),.sc (.string ByteArray.empty),.sc (.string ByteArray.empty),.sc (.string ByteArray.empty),.sc (.string ByteArray.empty),.nil,.nil,.sc (.int .i64 0),.nil,.sc (.int .i64 0),.sc (.int .i64 0)]),.slot 6 (one (.sl R)),.slot 7 (one (.sc (.string w0))),.slot 8 (vI A),.slot 9 (vI 1)] (h:=?_)
   exact hk
 case partK=>
 intro F hF
 have hF12:F=1∨F=2:=by rcases hF with h|h<;>omega
 replace hbad:=hbad.out F hF
 replace hlenR:=hlenR.out
 replace hF:=Lib.hid hF
 by_cases hneg:A<0
 ·have t2:decide (A<0)=true:=dcT hneg
  have hv:=hbad (.inl hneg)
  clear hbad hneg
  replace hF12:=Lib.hid hF12
  rw [hv]
  refine zR ?_
  subst hFW;subst hFO
  refine At.retOA 997 (by rw [Tryz.results53]) hγ (hrows:=?_) (he:=?_)
  ·rfl
  ·rw [hrs.out.out,hv]<;>rfl
 have t2:decide (A<0)=false:=dcF hneg
 by_cases hcnt:¬((r.length:Int)+1=A+F)
 ·have hv:=hbad (.inr hcnt)
  have t3:decide (((r.length+1:Nat):Int)=A+F)=false:=dcF (by omega)
  clear hbad hcnt
  rw [hv]
  refine zR ?_
  subst hFW;subst hFO
  refine At.retOA 997 (by rw [Tryz.results53]) hγ (hrows:=?_) (he:=?_)
  ·rfl
  ·rw [hrs.out.out,hv]<;>rfl
 replace hcnt:=Classical.not_not.1 hcnt
 have t3:decide (((r.length+1:Nat):Int)=A+F)=true:=dcT (by omega)
 clear hbad
 obtain⟨a,rfl⟩:∃a:Nat,A=(a:Int):=⟨A.toNat,by omega⟩
 have ha2:a≤2:=by omega
 obtain⟨Z,hZ,hZr,hZu⟩:∃Z:List ByteArray,Z.length=a∧(∀k,(h:k<Z.length)→∃j:Nat,F+(k:Int)=(j:Int)∧R[j]?=some [.sc (.string Z[k])]∧j<r.length+1)∧((w0=chainW∧∃w1,r=w1::Z)∨(¬w0=chainW∧r=Z)):=by
  rcases hF.out with⟨e,rfl⟩|⟨e,rfl⟩
  ·obtain⟨w1,Z,rfl⟩:∃w1 Z,r=w1::Z:=by
    cases r with
    |nil=>simp only [List.length_nil]at hcnt;omega
    |cons x y=>exact⟨x,y,rfl⟩
   simp only [List.length_cons]at hcnt
   exact⟨Z,by omega,fun k h=>⟨k+2,by omega,hrow.out (k+1) (by simp only [List.length_cons];omega),by simp only [List.length_cons];omega⟩,.inl ⟨e,w1,rfl⟩⟩
  ·exact⟨r,by omega,fun k h=>⟨k+1,by omega,hrow.out k h,by omega⟩,.inr ⟨e,rfl⟩⟩
 have hZs:∀x∈Z,x.size≤1048576:=fun x hx=>by
  rcases hZu with⟨_,w1,e⟩|⟨_,e⟩
  ·exact hru x (by rw [e];exact List.mem_cons_of_mem _ hx)
  ·exact hru x (by rw [e];exact hx)
 have hfail:numsB Z=false→lineD (L,((p,s),st,((h1,h2,h3,h4,h5,h6),v),(l,n),(q,m),now),hs) (w0::r)=((L,((p,s),st,((h1,h2,h3,h4,h5,h6),v),(l,n),(q,m),now),hs),whatW):=fun h=>by
  rcases hZu with⟨e,w1,e2⟩|⟨e,e2⟩
  ·obtain⟨w2,rfl⟩:∃w2,Z=[w2]:=List.length_eq_one_iff.1 (by
    have h1:argN chainW=1:=by decide
    rw [e]at hA
    have:=hA.out
    omega)
   subst e2
   rw [line_eq,if_pos ⟨e,rfl⟩]
   show chD (L,((p,s),st,((h1,h2,h3,h4,h5,h6),v),(l,n),(q,m),now),hs) w1 w2=_
   have h2:(readZ w2).2=false:=by
    rw [numsB_cons]at h
    simpa [numsB]using h
   unfold chD
   rw [if_neg (by rw [h2];decide)]
  ·subst e2
   rw [line_num _ _ e,h]
   rfl
 have hnil:rowsF cInt []=[]:=rfl
 replace hZu:=Lib.hid hZu
 replace hcnt:=Lib.hid hcnt
 refine zR ?_
 clear t3 hlenR
 replace hlenR:R.length=r.length+1:=by rw [←hR.out];exact rowsF_len cStr (w0::r)
 refine W.loopA (fun k=>k≤a∧numsB (Z.take k)=true) (fun k:Nat=>[.blk 998 (.arr (.fr FO FW) 0 1 []),.blk 997 (.arr .ft 30 6 (rowsF cHeader l)),.slot 2 (one (.ptr 2 0)),.blk 2 (.box [.sl (bkRows L),.sc (.bool hs),.sc (.int .i64 p),.sc (.int .i64 s),.sc (.int .i64 st),.sc (.int .i64 h1),.sc (.int .i64 h2),.sc (.string h3),.sc (.string h4),.sc (.string h5),.sc (.string h6),.sl (rowsF cVal v),.all 997,.sc (.int .i64 n),.sl (rowsF cPeer q),.sc (.int .i64 m),.sc (.int .i64 now)]),.slot 4 (one (.ptr 4 0)),.blk 4 (.box [.nil,.sc (.bool false),.sc (.int .i64 0),.sc (.int .i64 0),.sc (.int .i64 0),.sc (.int .i64 0),.sc (.int .i64 0),.sc (.string ByteArray.empty),.sc (.string ByteArray.empty),.sc (.string ByteArray.empty),.sc (.string ByteArray.empty),.nil,.nil,.sc (.int .i64 0),.nil,.sc (.int .i64 0),.sc (.int .i64 0)]),.slot 6 (one (.sl R)),.slot 7 (one (.sc (.string w0))),.slot 8 (vI a),.slot 9 (vI F),.slot 10 (one (.all 38)),.blk 38 (.arr .ft 3 1 (rowsF cInt (numsL (Z.take k)))),.slot 11 (vI k)]) (fun k=>a-k) 0 ⟨Nat.zero_le _,rfl⟩ (h:=?_)
 rintro k ⟨hk,hI⟩
 have hnl:(numsL (Z.take k)).length≤1048576:=by unfold numsL;rw [List.length_map,List.length_take];omega
 by_cases hlt:k<a
 ·have hltZ:k<Z.length:=by omega
  obtain⟨j,ej,hj,hjl⟩:=hZr k hltZ
  have hsx:=hZs Z[k] (List.getElem_mem hltZ)
  have c3:=mRead_eq Z[k] (by omega)
  have hB:numsB (Z.take (k+1))=(numsB (Z.take k)&&(readZ Z[k]).2):=by
   unfold numsB
   rw [List.take_succ_eq_append_getElem hltZ,List.all_append]
   simp
  have hL:numsL (Z.take (k+1))=numsL (Z.take k)++[(readZ Z[k]).1]:=by
   unfold numsL
   rw [List.take_succ_eq_append_getElem hltZ,List.map_append]
   rfl
  have happ:=cInt_app (numsL (Z.take k)) (readZ Z[k]).1
  rw [←hL]at happ
  have hbad:(readZ Z[k]).2=false→lineD (L,((p,s),st,((h1,h2,h3,h4,h5,h6),v),(l,n),(q,m),now),hs) (w0::r)=((L,((p,s),st,((h1,h2,h3,h4,h5,h6),v),(l,n),(q,m),now),hs),whatW):=fun h=>hfail (by
   unfold numsB
   rw [List.all_eq_false]
   exact⟨Z[k],List.getElem_mem hltZ,by rw [h];simp⟩)
  rw [hI,Bool.true_and]at hB
  clear hL hI hZr hZs hfail
  generalize hL1:numsL (Z.take (k+1))=L1 at*
  generalize numsL (Z.take k)=L0 at*
  replace hL1:=Lib.hid hL1
  generalize readZ Z[k]=y at*
  generalize Z[k]=x at*
  obtain⟨y,b⟩:=y
  dsimp only at*
  cases b with
  |true=>
   clear hbad
   replace hB:=Lib.hid hB
   refine zR ?_
   refine At.roundA (k+1) ⟨by omega,hB.out⟩ (by omega) (hs:=?_)
   rw [hL1.out]
   exact subP
  |false=>
   have hv:=hbad rfl
   clear hbad hB happ
   rw [hv]
   replace hv:=Lib.hid hv
   refine zR ?_
   subst hFW;subst hFO
   refine At.retOA 997 (by rw [Tryz.results53]) hγ (hrows:=?_) (he:=?_)
   ·rfl
   ·rw [hrs.out.out,hv.out]<;>rfl
 have hke:k=a:=by omega
 subst hke
 have ht:Z.take k=Z:=List.take_of_length_le (by omega)
 rw [ht]at hI hnl⊢
 clear ht hZr hZs hfail hlt hk
 have hnsl:(numsL Z).length=k:=by unfold numsL;rw [List.length_map];exact hZ
 rcases hways.out (by omega)with hw|⟨hw,hc⟩|⟨hw,⟨g1,g2,g3⟩,hc⟩
 · --chain
  obtain⟨w1,e2⟩:∃w1,r=w1::Z:=by
   rcases hZu.out with⟨_,h⟩|⟨h,_⟩
   ·exact h
   ·exact absurd hw h
  have ha1:argN chainW=1:=by decide
  rw [hw]at hA
  have hk1:k=1:=by
   have:=hA.out
   omega
  subst hk1
  obtain⟨w2,rfl⟩:∃w2,Z=[w2]:=List.length_eq_one_iff.1 hZ
  subst e2
  have hv:lineD (L,((p,s),st,((h1,h2,h3,h4,h5,h6),v),(l,n),(q,m),now),hs) (w0::[w1,w2])=((chainOf w1 (readZ w2).1,zLt,false),decT (chainOf w1 (readZ w2).1).length):=by
   rw [line_eq,if_pos ⟨hw,rfl⟩]
   show chD (L,((p,s),st,((h1,h2,h3,h4,h5,h6),v),(l,n),(q,m),now),hs) w1 w2=_
   have hb2:(readZ w2).2=true:=by
    rw [numsB_cons]at hI
    simpa [numsB]using hI
   unfold chD
   rw [if_pos hb2]
  have hr1:R[1]?=some [.sc (.string w1)]:=hrow.out 0 (by simp)
  have hz1:w1.size≤1048576:=hru w1 (by simp)
  have hn0:numsL [w2]=[(readZ w2).1]:=rfl
  have hch:=(chOk_of w1 (readZ w2).1).1
  have c3:=mChain_eq w1 (readZ w2).1 hz1
  have c4:=mDecZ_eq ((chainOf w1 (readZ w2).1).length:Int) ⟨by omega,by omega⟩
  have t1:decide (w0=(⟨#[99,104,97,105,110]⟩:ByteArray))=true:=dcT hw
  rw [hn0]
  clear hn0 hI ha1 hw hru hrl
  generalize (readZ w2).1=y at*
  have ha0:(rowsF cInt [y])[0]?=some [.sc (.int .i64 y)]:=rfl
  generalize rowsF cInt [y]=RM at*
  have hcl:=bkRows_len (chainOf w1 y)
  generalize chainOf w1 y=C at*
  rw [hv]
  replace hv:=Lib.hid hv
  refine zR ?_
  refine W.frzA 10 38 (h:=?_)
  refine zR ?_
  refine W.drawB hΓ 17 [[],[0],[0,1],[],[3],[3,4],[0,1,2,3,4,5],[0,1,2,3,4,5,6],[],[8],[8,9],[],[11],[11,12],[0,1,2,3,4,5,6,8,9,10,11,12,13],[0,1,2,3,4,5,6,8,9,10,11,12,13,14],[0,1,2,3,4,5,6,8,9,10,11,12,13,14,15],[0,1,2,3,4,5,6,7,8,9,10,11,12,13,14,15,16],[0,1,2,3,4,5,6,7,8,9,10,11,12,13,14,15,16,17]] (Es:=?Es16) (rest:=?rest16) (st1:=?st116) ?_
  refine zQ ?_
  refine At.nilX 4 12 777 30 6 (h:=?_)
  refine At.slX 4 (h:=?_)
  refine At.frzX 4 70 (h:=?_)
  subst hFW;subst hFO
  refine At.retOA 777 (by rw [Tryz.results53]) hγ (hrows:=?_) (he:=?_)
  ·rfl
  ·rw [hrs.out.out,hv.out]<;>rfl
 ·clear hA
  have hrR:r=Z:=by
   rcases hZu.out with⟨h,_⟩|⟨_,h⟩
   ·exact absurd h hw
   ·exact h
  have hv:lineD (L,((p,s),st,((h1,h2,h3,h4,h5,h6),v),(l,n),(q,m),now),hs) (w0::r)=numD (L,((p,s),st,((h1,h2,h3,h4,h5,h6),v),(l,n),(q,m),now),hs) w0 (numsL Z):=by
   rw [line_num _ _ hw,hrR,if_pos hI]
  have t1:decide (w0=(⟨#[99,104,97,105,110]⟩:ByteArray))=false:=dcF hw
  clear hrR hI hw hru hrl hZ
  generalize numsL Z=ns at*
  rw [hv]
  replace hv:=Lib.hid hv
  have hw3:(decide (w0=(⟨#[115,116,97,114,116]⟩:ByteArray))=true)∨(decide (w0=(⟨#[115,116,97,114,116]⟩:ByteArray))=false∧decide (w0=(⟨#[114,111,111,116]⟩:ByteArray))=true)∨(decide (w0=(⟨#[115,116,97,114,116]⟩:ByteArray))=false∧decide (w0=(⟨#[114,111,111,116]⟩:ByteArray))=false∧decide (w0=(⟨#[112,114,111,111,102]⟩:ByteArray))=true):=by
   rcases hc with⟨rfl,_⟩|⟨rfl,_⟩|⟨rfl,_⟩
   ·exact .inl (by decide)
   ·exact .inr (.inl (by decide))
   ·exact .inr (.inr (by decide))
  rcases hw3 with t5|⟨t5,t6⟩|⟨t5,t6,t7⟩
  ·have hok:ChArg w0 ns:=ch_arg hnsl hc
   refine zR ?_
   refine W.frzA 10 38 (h:=?_)
   refine W.subA [.blk 998 (.arr (.fr FO FW) 0 1 []),.blk 997 (.arr .ft 30 6 (rowsF cHeader l)),.slot 2 (one (.ptr 2 0)),.blk 2 (.box [.sl (bkRows L),.sc (.bool hs),.sc (.int .i64 p),.sc (.int .i64 s),.sc (.int .i64 st),.sc (.int .i64 h1),.sc (.int .i64 h2),.sc (.string h3),.sc (.string h4),.sc (.string h5),.sc (.string h6),.sl (rowsF cVal v),.all 997,.sc (.int .i64 n),.sl (rowsF cPeer q),.sc (.int .i64 m),.sc (.int .i64 now)]),.slot 4 (one (.ptr 4 0)),.blk 4 (.box [.nil,.sc (.bool false),.sc (.int .i64 0),.sc (.int .i64 0),.sc (.int .i64 0),.sc (.int .i64 0),.sc (.int .i64 0),.sc (.string ByteArray.empty),.sc (.string ByteArray.empty),.sc (.string ByteArray.empty),.sc (.string ByteArray.empty),.nil,.nil,.sc (.int .i64 0),.nil,.sc (.int .i64 0),.sc (.int .i64 0)]),.slot 6 (one (.sl R)),.slot 7 (one (.sc (.string w0))),.slot 10 (one (.sl (rowsF cInt ns)))] (h:=?_)
   refine zV ?_
   refine WL.opOA 997 hCh chainD_s ((L,((p,s),st,((h1,h2,h3,h4,h5,h6),v),(l,n),(q,m),now),hs),w0,ns) ⟨hx,hok⟩ (hst:=by simp only [resR,resNum,pDs,pLt,List.map_cons,List.map_nil,renO];rfl) (h:=?_)
   refine zM ?_
   generalize numD (L,((p,s),st,((h1,h2,h3,h4,h5,h6),v),(l,n),(q,m),now),hs) w0 ns=Y at*
   refine zR ?_
   subst hFW;subst hFO
   refine At.retOA 997 (by rw [Tryz.results53]) hγ (hrows:=?_) (he:=?_)
   ·rfl
   ·rw [hrs.out.out,hv.out]<;>rfl
  ·have hok:ChArg w0 ns:=ch_arg hnsl hc
   refine zR ?_
   refine W.frzA 10 38 (h:=?_)
   refine W.subA [.blk 998 (.arr (.fr FO FW) 0 1 []),.blk 997 (.arr .ft 30 6 (rowsF cHeader l)),.slot 2 (one (.ptr 2 0)),.blk 2 (.box [.sl (bkRows L),.sc (.bool hs),.sc (.int .i64 p),.sc (.int .i64 s),.sc (.int .i64 st),.sc (.int .i64 h1),.sc (.int .i64 h2),.sc (.string h3),.sc (.string h4),.sc (.string h5),.sc (.string h6),.sl (rowsF cVal v),.all 997,.sc (.int .i64 n),.sl (rowsF cPeer q),.sc (.int .i64 m),.sc (.int .i64 now)]),.slot 4 (one (.ptr 4 0)),.blk 4 (.box [.nil,.sc (.bool false),.sc (.int .i64 0),.sc (.int .i64 0),.sc (.int .i64 0),.sc (.int .i64 0),.sc (.int .i64 0),.sc (.string ByteArray.empty),.sc (.string ByteArray.empty),.sc (.string ByteArray.empty),.sc (.string ByteArray.empty),.nil,.nil,.sc (.int .i64 0),.nil,.sc (.int .i64 0),.sc (.int .i64 0)]),.slot 6 (one (.sl R)),.slot 7 (one (.sc (.string w0))),.slot 10 (one (.sl (rowsF cInt ns)))] (h:=?_)
   refine zV ?_
   refine WL.opOA 997 hCh chainD_s ((L,((p,s),st,((h1,h2,h3,h4,h5,h6),v),(l,n),(q,m),now),hs),w0,ns) ⟨hx,hok⟩ (hst:=by simp only [resR,resNum,pDs,pLt,List.map_cons,List.map_nil,renO];rfl) (h:=?_)
   refine zM ?_
   generalize numD (L,((p,s),st,((h1,h2,h3,h4,h5,h6),v),(l,n),(q,m),now),hs) w0 ns=Y at*
   refine zR ?_
   subst hFW;subst hFO
   refine At.retOA 997 (by rw [Tryz.results53]) hγ (hrows:=?_) (he:=?_)
   ·rfl
   ·rw [hrs.out.out,hv.out]<;>rfl
  ·have hok:ChArg w0 ns:=ch_arg hnsl hc
   refine zR ?_
   refine W.frzA 10 38 (h:=?_)
   refine W.subA [.blk 998 (.arr (.fr FO FW) 0 1 []),.blk 997 (.arr .ft 30 6 (rowsF cHeader l)),.slot 2 (one (.ptr 2 0)),.blk 2 (.box [.sl (bkRows L),.sc (.bool hs),.sc (.int .i64 p),.sc (.int .i64 s),.sc (.int .i64 st),.sc (.int .i64 h1),.sc (.int .i64 h2),.sc (.string h3),.sc (.string h4),.sc (.string h5),.sc (.string h6),.sl (rowsF cVal v),.all 997,.sc (.int .i64 n),.sl (rowsF cPeer q),.sc (.int .i64 m),.sc (.int .i64 now)]),.slot 4 (one (.ptr 4 0)),.blk 4 (.box [.nil,.sc (.bool false),.sc (.int .i64 0),.sc (.int .i64 0),.sc (.int .i64 0),.sc (.int .i64 0),.sc (.int .i64 0),.sc (.string ByteArray.empty),.sc (.string ByteArray.empty),.sc (.string ByteArray.empty),.sc (.string ByteArray.empty),.nil,.nil,.sc (.int .i64 0),.nil,.sc (.int .i64 0),.sc (.int .i64 0)]),.slot 6 (one (.sl R)),.slot 7 (one (.sc (.string w0))),.slot 10 (one (.sl (rowsF cInt ns)))] (h:=?_)
   refine zV ?_
   refine WL.opOA 997 hCh chainD_s ((L,((p,s),st,((h1,h2,h3,h4,h5,h6),v),(l,n),(q,m),now),hs),w0,ns) ⟨hx,hok⟩ (hst:=by simp only [resR,resNum,pDs,pLt,List.map_cons,List.map_nil,renO];rfl) (h:=?_)
   refine zM ?_
   generalize numD (L,((p,s),st,((h1,h2,h3,h4,h5,h6),v),(l,n),(q,m),now),hs) w0 ns=Y at*
   refine zR ?_
   subst hFW;subst hFO
   refine At.retOA 997 (by rw [Tryz.results53]) hγ (hrows:=?_) (he:=?_)
   ·rfl
   ·rw [hrs.out.out,hv.out]<;>rfl
 ·clear hA
  have hrR:r=Z:=by
   rcases hZu.out with⟨h,_⟩|⟨_,h⟩
   ·exact absurd h hw
   ·exact h
  have hv:lineD (L,((p,s),st,((h1,h2,h3,h4,h5,h6),v),(l,n),(q,m),now),hs) (w0::r)=numD (L,((p,s),st,((h1,h2,h3,h4,h5,h6),v),(l,n),(q,m),now),hs) w0 (numsL Z):=by
   rw [line_num _ _ hw,hrR,if_pos hI]
  have t1:decide (w0=(⟨#[99,104,97,105,110]⟩:ByteArray))=false:=dcF hw
  clear hrR hI hw hru hrl hZ
  generalize numsL Z=ns at*
  rw [hv]
  replace hv:=Lib.hid hv
  have t5:decide (w0=(⟨#[115,116,97,114,116]⟩:ByteArray))=false:=dcF g1
  have t6:decide (w0=(⟨#[114,111,111,116]⟩:ByteArray))=false:=dcF g2
  have t7:decide (w0=(⟨#[112,114,111,111,102]⟩:ByteArray))=false:=dcF g3
  clear g1 g2 g3
  have hok:LtArg w0 ns:=lt_arg hnsl hc
  refine zR ?_
  refine W.frzA 10 38 (h:=?_)
  refine W.subA [.blk 998 (.arr (.fr FO FW) 0 1 []),.blk 997 (.arr .ft 30 6 (rowsF cHeader l)),.slot 2 (one (.ptr 2 0)),.blk 2 (.box [.sl (bkRows L),.sc (.bool hs),.sc (.int .i64 p),.sc (.int .i64 s),.sc (.int .i64 st),.sc (.int .i64 h1),.sc (.int .i64 h2),.sc (.string h3),.sc (.string h4),.sc (.string h5),.sc (.string h6),.sl (rowsF cVal v),.all 997,.sc (.int .i64 n),.sl (rowsF cPeer q),.sc (.int .i64 m),.sc (.int .i64 now)]),.slot 4 (one (.ptr 4 0)),.blk 4 (.box [.nil,.sc (.bool false),.sc (.int .i64 0),.sc (.int .i64 0),.sc (.int .i64 0),.sc (.int .i64 0),.sc (.int .i64 0),.sc (.string ByteArray.empty),.sc (.string ByteArray.empty),.sc (.string ByteArray.empty),.sc (.string ByteArray.empty),.nil,.nil,.sc (.int .i64 0),.nil,.sc (.int .i64 0),.sc (.int .i64 0)]),.slot 6 (one (.sl R)),.slot 7 (one (.sc (.string w0))),.slot 10 (one (.sl (rowsF cInt ns)))] (h:=?_)
  refine zV ?_
  refine WL.opOA 997 hLt lightD_s ((L,((p,s),st,((h1,h2,h3,h4,h5,h6),v),(l,n),(q,m),now),hs),w0,ns) ⟨hx,hok⟩ (hst:=by simp only [resR,resNum,pDs,pLt,List.map_cons,List.map_nil,renO];rfl) (h:=?_)
  refine zM ?_
  generalize numD (L,((p,s),st,((h1,h2,h3,h4,h5,h6),v),(l,n),(q,m),now),hs) w0 ns=Y at*
  refine zR ?_
  subst hFW;subst hFO
  refine At.retOA 997 (by rw [Tryz.results53]) hγ (hrows:=?_) (he:=?_)
  ·rfl
  ·rw [hrs.out.out,hv.out]<;>rfl
end
section
noncomputable def mDeskS:=mdl (fun s:ByteArray=>s.size≤1048576) (fun s=>[aS s]) (fun s=>rS (deskI s))
theorem mDeskS_eq (s:ByteArray)(h:s.size≤1048576):mDeskS [aS s]=some (rS (deskI s)):=mdl_eq (enc:=fun s:ByteArray=>[aS s]) (by intro a b h;simpa using h) s h
theorem deskS_s:Sound Tryz.prog 14 mDeskS:=by
 refine Sound.mdl Tryz.func14 rfl Tryz.ntmps14 ?_
 rintro s0 w hs
 refine⟨by simp,?_⟩
 replace hs:s0.size≤1048576:=hs
 have hΓ:=eN
 have hLn:Has Tryz.prog 53:=hsO Tryz.func53
 have hD:deskI s0=if 20000<s0.size∨80<(linesI s0).length then ByteArray.empty else(runI (linesI s0)).2:=rfl
 have hM:=linesI_spK s0
 obtain⟨hm1,hm2⟩:=linesI_small s0
 have hnil:rowsF cStr []=[]:=rfl
 generalize hDk:deskI s0=O at*
 generalize linesI s0=M at*
 have hN:=byteN_eq s0
 refine zI ?_
 by_cases q1:20000<s0.size
 ·rw [if_pos (.inl q1)]at hD
  have t1:decide ((20000:Int)<(s0.size:Int))=true:=dcT (by omega)
  clear hM hm2
  subst hD
  replace hDk:=Lib.hid hDk
  refine zR ?_
  refine At.retA (by rw [Tryz.results14]) (he:=?_)
  rfl
 have t1:decide ((20000:Int)<(s0.size:Int))=false:=dcF (by omega)
 replace hD:=Lib.hid hD
 replace hDk:=Lib.hid hDk
 replace hM:=Lib.hid hM
 refine zR ?_
 refine W.loopA (fun k=>k≤s0.size) (fun k:Nat=>[.slot 0 (one (.sc (.string s0))),.slot 3 (one (.all 14)),.blk 14 (.arr .ft 9 1 (rowsF cStr (spK s0 10 k).1)),.slot 4 (vI ((spK s0 10 k).2:Nat)),.slot 5 (vI k)]) (fun k=>s0.size-k) 0 (Nat.zero_le _) (h:=?_)
 rintro k hk
 obtain⟨hle,hln⟩:=spK_le s0 10 k
 by_cases hlt:k<s0.size
 ·have ib:=byte_at hlt
  have bl:=byteN_lt s0 k
  have hsu:=spK_succ s0 10 k
  unfold spF at hsu
  have happ:=cStr_appT (spK s0 10 k).1 (s0.extract (spK s0 10 k).2 k)
  by_cases h1:byteN s0 k=10
  ·rw [if_pos h1]at hsu
   have h1':((byteN s0 k:Nat):Int)=10:=by omega
   generalize spK s0 10 k=st at*
   obtain⟨L,p⟩:=st
   dsimp only at*
   replace hsu:=Lib.hid hsu
   refine zR ?_
   refine At.roundA (k+1) (by omega) (by omega) (hs:=?_)
   rw [hsu.out]
   exact subP
  ·rw [if_neg h1]at hsu
   have h1':¬((byteN s0 k:Nat):Int)=10:=by omega
   generalize spK s0 10 k=st at*
   replace hsu:=Lib.hid hsu
   clear happ
   refine zR ?_
   refine At.roundA (k+1) (by omega) (by omega) (hs:=?_)
   rw [hsu.out]
   exact subP
 have hke:k=s0.size:=by omega
 subst hke
 have happ:=cStr_appT (spK s0 10 s0.size).1 (s0.extract (spK s0 10 s0.size).2 s0.size)
 have hlen:=rowsF_len cStr M
 replace hM:=hM.out
 replace hm2:=Lib.hid hm2
 generalize spK s0 10 s0.size=st at*
 obtain⟨L,p⟩:=st
 dsimp only at*
 refine(fun(key:W Tryz.prog none0 w ?nK [.slot 3 (one (.all 14)),.blk 14 (.arr .ft 9 1 (rowsF cStr M)),.slot 46 (one (.sc (.bool (decide (80<(M.length:Int))))))] ?codeK ?postK)=>?mainK) ?partK
 case mainK=>
  by_cases q:p<s0.size
  ·rw [if_pos q]at hM
   rw [←hM]at happ
   have t2:decide ((p:Int)<(s0.size:Int))=true:=dcT (by omega)
   replace hM:=Lib.hid hM
   refine zR ?_
   refine W.subA [.slot 3 (one (.all 14)),.blk 14 (.arr .ft 9 1 (rowsF cStr M)),.slot 46 (one (.sc (.bool (decide (80<(M.length:Int))))))] (h:=?_)
   exact key
  ·rw [if_neg q]at hM
   subst hM
   have t2:decide ((p:Int)<(s0.size:Int))=false:=dcF (by omega)
   clear happ
   refine zR ?_
   refine W.subA [.slot 3 (one (.all 14)),.blk 14 (.arr .ft 9 1 (rowsF cStr M)),.slot 46 (one (.sc (.bool (decide (80<(M.length:Int))))))] (h:=?_)
   exact key
 case partK=>
 clear hM happ hle hln hlt
 replace hD:=hD.out
 replace hm2:=hm2.out
 by_cases q2:80<M.length
 ·rw [if_pos (.inr q2)]at hD
  have t3:decide (80<(M.length:Int))=true:=dcT (by omega)
  clear hm2
  subst hD
  refine zR ?_
  refine At.retA (by rw [Tryz.results14]) (he:=?_)
  rfl
 have t3:decide (80<(M.length:Int))=false:=dcF (by omega)
 rw [if_neg (by omega)]at hD
 replace hD:=Lib.hid hD
 have hm80:M.length≤80:=by omega
 clear q2
 refine zR ?_
 refine W.frzA 3 14 (h:=?_)
 refine W.nilX 6 12 777 30 6 (h:=?_)
 refine W.slX 6 (h:=?_)
 have h00:runI []=(([],((0,0),0,((0,0,ByteArray.empty,ByteArray.empty,ByteArray.empty,ByteArray.empty),[]),([],0),([],0),0),false),ByteArray.empty):=rfl
 have hb0:bkRows []=[]:=rfl
 have hv0:rowsF cVal []=[]:=rfl
 have hp0:rowsF cPeer []=[]:=rfl
 have hh0:rowsF cHeader []=[]:=rfl
 refine W.loopA (fun k=>k≤M.length) (fun k:Nat=>[.slot 3 (one (.sl (rowsF cStr M))),.slot 6 (one (.ptr 6 0)),.blk 6 (.box [.sl (bkRows (runI (M.take k)).1.1),.sc (.bool (runI (M.take k)).1.2.2),.sc (.int .i64 (runI (M.take k)).1.2.1.1.1),.sc (.int .i64 (runI (M.take k)).1.2.1.1.2),.sc (.int .i64 (runI (M.take k)).1.2.1.2.1),.sc (.int .i64 (runI (M.take k)).1.2.1.2.2.1.1.1),.sc (.int .i64 (runI (M.take k)).1.2.1.2.2.1.1.2.1),.sc (.string (runI (M.take k)).1.2.1.2.2.1.1.2.2.1),.sc (.string (runI (M.take k)).1.2.1.2.2.1.1.2.2.2.1),.sc (.string (runI (M.take k)).1.2.1.2.2.1.1.2.2.2.2.1),.sc (.string (runI (M.take k)).1.2.1.2.2.1.1.2.2.2.2.2),.sl (rowsF cVal (runI (M.take k)).1.2.1.2.2.1.2),.all 777,.sc (.int .i64 (runI (M.take k)).1.2.1.2.2.2.1.2),.sl (rowsF cPeer (runI (M.take k)).1.2.1.2.2.2.2.1.1),.sc (.int .i64 (runI (M.take k)).1.2.1.2.2.2.2.1.2),.sc (.int .i64 (runI (M.take k)).1.2.1.2.2.2.2.2)]),.blk 777 (.arr .ft 30 6 (rowsF cHeader (runI (M.take k)).1.2.1.2.2.2.1.1)),.slot 7 (one (.sc (.string (runI (M.take k)).2))),.slot 8 (vI k)]) (fun k=>M.length-k) 0 (Nat.zero_le _) (hs:=?_) (h:=?_)
 ·rw [List.take_zero,h00]
  simp only [hb0,hv0,hp0,hh0]
  exact subP
 clear h00 hb0 hv0 hp0 hh0
 rintro k hk
 by_cases hlt:k<M.length
 ·have hrow:=cStr_rowN M k hlt
  have hok:=runI_ok (M.take k)
  have hos:(runI (M.take k)).2.size≤96080:=Nat.le_trans (runI_size (M.take k)) (by rw [List.length_take];omega)
  have hst:runI (M.take (k+1))=stepI (runI (M.take k)) M[k]:=by rw [List.take_succ_eq_append_getElem hlt,runI_snoc]
  have hsz:=hm2 M[k] (List.getElem_mem hlt)
  have hsz':M[k].size≤1048576:=by omega
  replace hst:=Lib.hid hst
  clear hm2 hsz
  generalize runI (M.take k)=y at*
  obtain⟨⟨L,⟨⟨p,s⟩,st,⟨⟨h1,h2,h3,h4,h5,h6⟩,v⟩,⟨l,n⟩,⟨q,m⟩,now⟩,hs'⟩,out⟩:=y
  generalize M[k]=t at*
  dsimp only at hok hos
  by_cases ht:t=ByteArray.empty
  ·have t5:decide (t=(⟨#[]⟩:ByteArray))=true:=dcT ht
   replace hst:=hst.out
   unfold stepI at hst
   rw [if_pos ht]at hst
   replace hst:=Lib.hid hst
   clear ht hok
   refine zR ?_
   refine At.roundA (k+1) (by omega) (by omega) (hs:=?_)
   rw [hst.out]
   exact subP
  ·have t5:decide (t=(⟨#[]⟩:ByteArray))=false:=dcF ht
   replace hst:=hst.out
   unfold stepI at hst
   rw [if_neg ht]at hst
   have hls:=lineD_size (L,((p,s),st,((h1,h2,h3,h4,h5,h6),v),(l,n),(q,m),now),hs') (splitS t 32)
   have hnl:=nl_size
   have hol:(out++(lineD (L,((p,s),st,((h1,h2,h3,h4,h5,h6),v),(l,n),(q,m),now),hs') (splitS t 32)).2).size≤97280:=app_size hos hls (by decide)
   replace hst:=Lib.hid hst
   clear ht
   refine zR ?_
   refine W.subA [.slot 3 (one (.sl (rowsF cStr M))),.slot 6 (one (.ptr 6 0)),.blk 6 (.box [.sl (bkRows L),.sc (.bool hs'),.sc (.int .i64 p),.sc (.int .i64 s),.sc (.int .i64 st),.sc (.int .i64 h1),.sc (.int .i64 h2),.sc (.string h3),.sc (.string h4),.sc (.string h5),.sc (.string h6),.sl (rowsF cVal v),.all 777,.sc (.int .i64 n),.sl (rowsF cPeer q),.sc (.int .i64 m),.sc (.int .i64 now)]),.blk 777 (.arr .ft 30 6 (rowsF cHeader l)),.slot 7 (one (.sc (.string out))),.slot 8 (vI k)] (h:=?_)
   refine AllGo.start hΓ (h:=?_)
   refine AllGo.add 0 0 (h:=?_)
   refine AllGo.add 0 1 (h:=?_)
   refine AllGo.add 1 1 (h:=?_)
   refine AllGo.add 0 2 (h:=?_)
   refine AllGo.add 1 2 (h:=?_)
   refine AllGo.add 2 2 (h:=?_)
   refine AllGo.add 3 2 (h:=?_)
   refine AllGo.add 6 3 (h:=?_)
   refine AllGo.add 7 3 (h:=?_)
   refine AllGo.add 14 4 (h:=?_)
   refine AllGo.add 15 4 (h:=?_)
   refine AllGo.addO 31 5 65 777 (.tup [(true,pDs (lineD (L,((p,s),st,((h1,h2,h3,h4,h5,h6),v),(l,n),(q,m),now),hs') (splitS t 32)).1 777),(false,[.sc (.string (lineD (L,((p,s),st,((h1,h2,h3,h4,h5,h6),v),(l,n),(q,m),now),hs') (splitS t 32)).2)])]) (.arr .ft 30 6 (dkRows (lineD (L,((p,s),st,((h1,h2,h3,h4,h5,h6),v),(l,n),(q,m),now),hs') (splitS t 32)).1)) (h:=?_)
   refine AllGo.add 63 6 (h:=?_)
   refine AllGo.add 127 7 (h:=?_)
   refine AllGo.add 127 8 (h:=?_)
   refine AllGo.add 255 8 (h:=?_)
   refine AllGo.add 0 9 (h:=?_)
   refine AllGo.add 1 9 (h:=?_)
   refine AllGo.add 2 9 (h:=?_)
   refine AllGo.add 3 9 (h:=?_)
   refine AllGo.add 4 9 (h:=?_)
   refine AllGo.add 5 9 (h:=?_)
   refine AllGo.add 6 9 (h:=?_)
   refine AllGo.add 7 9 (h:=?_)
   refine AllGo.add 14 9 (h:=?_)
   refine AllGo.add 15 9 (h:=?_)
   refine AllGo.add 30 9 (h:=?_)
   refine AllGo.add 31 9 (h:=?_)
   refine AllGo.add 63 9 (h:=?_)
   refine AllGo.add 127 9 (h:=?_)
   refine AllGo.add 255 9 (h:=?_)
   refine AllGo.add 383 9 (h:=?_)
   refine AllGo.add 511 9 (h:=?_)
   refine AllGo.add 767 10 (h:=?_)
   refine AllGo.add 1023 10 (h:=?_)
   refine AllGo.add 2047 11 (h:=?_)
   refine AllGo.doneG [(0,0),(0,1),(0,2),(0,9),(1,1),(1,2),(1,9),(2,0),(2,2),(2,9),(3,2),(3,9),(4,0),(4,1),(4,9),(5,1),(5,9),(6,0),(6,3),(6,9),(7,3),(7,9),(14,0),(14,4),(14,9),(15,4),(15,9),(30,0),(30,9),(31,5),(31,9),(63,6),(63,9),(127,7),(127,8),(127,9),(255,8),(255,9),(383,7),(383,9),(511,9),(512,0),(512,1),(512,2),(513,1),(513,2),(514,0),(514,2),(515,2),(516,0),(516,1),(517,1),(518,0),(518,3),(519,3),(526,0),(526,4),(527,4),(542,0),(543,5),(575,6),(639,7),(639,8),(767,8),(767,10),(895,7),(1023,10),(1791,8),(2047,11)] (hp:=?hp1) (hD:=?hD1) (h0:=?h01) (hS:=?hS1) (stE:=?stE1) (hE:=?hE1) (hT:=?hT1)
   case hp1=>kernel_rfl
   case hD1=>kernel_rfl
   case h01=>rfl
   case hS1=>
    repeat(first|refine List.forall_mem_cons.2 ⟨StepAt.toG hΓ (StepAt.mk' (ho:=by rfl) (hg:=by rfl) (hm:=by simp only [tabJ,eq_self,Nat.reduceEqDiff,Nat.reduceAdd,Nat.reducePow,reduceIte]<;>rfl) (hn:=by simp only [tabJ,eq_self,Nat.reduceEqDiff,Nat.reduceAdd,Nat.reducePow,reduceIte]<;>rfl) (hs:=by exact evsP) (hb:=by simp (disch:=omega) only [Sub,SubL,getS_hit,getS_miss,getS_blk,getS_kill,getS_nil,getB_nil,getB_slot,getB_hit,getB_miss,getB_kill0,getB_kill1,lsNms,vsNms,PL.nms,PV.nms,Blk.nms,bound,PV.kill,PL.kill,PL.names,List.append_nil,List.nil_append,List.cons_append,and_true,true_and,and_self, *]<;>(repeat' apply And.intro)<;>rfl)),?_⟩|refine List.forall_mem_cons.2 ⟨StepG.opO hLn lineS_s ((L,((p,s),st,((h1,h2,h3,h4,h5,h6),v),(l,n),(q,m),now),hs'),t) ⟨hok,hsz'⟩ (ho:=by rfl) (hm:=by simp only [tabJ,eq_self,Nat.reduceEqDiff,Nat.reduceAdd,Nat.reducePow,reduceIte]<;>rfl) (hn:=by simp only [tabJ,eq_self,Nat.reduceEqDiff,Nat.reduceAdd,Nat.reducePow,reduceIte]<;>rfl) (hN:=by decide) (n:=777) (hn9:=by decide) (hb:=by exact evcP) (ha:=by simp only [argsR];exact evcP) (hro:=by rfl) (hst:=by rfl) (hsub:=by simp (disch:=omega) only [Sub,SubL,getS_hit,getS_miss,getS_blk,getS_kill,getS_nil,getB_nil,getB_slot,getB_hit,getB_miss,getB_kill0,getB_kill1,lsNms,vsNms,PL.nms,PV.nms,Blk.nms,bound,PV.kill,PL.kill,PL.names,List.append_nil,List.nil_append,List.cons_append,and_true,true_and,and_self, *]<;>(repeat' apply And.intro)<;>rfl),?_⟩)
    exact List.forall_mem_nil _
   case hE1=>simp only [tabJ,eq_self,Nat.reduceEqDiff,List.length_cons,List.length_nil,Nat.reduceAdd,Nat.reducePow,Nat.reduceSub,reduceIte]<;>rfl
   with_reducible apply WL.nil
   generalize lineD (L,((p,s),st,((h1,h2,h3,h4,h5,h6),v),(l,n),(q,m),now),hs') (splitS t 32)=Y at*
   refine zR ?_
   refine At.roundA (k+1) (by omega) (by omega) (hs:=?_)
   rw [hst.out]
   exact subP
 ·have hke:M.take k=M:=List.take_of_length_le (by omega)
  rw [hke]
  clear hke
  refine zR ?_
  refine At.retA (by rw [Tryz.results14]) (he:=?_)
  rw [hD.out]
end
section
theorem lawDesk_s:Sound Tryz.prog 4 (mdl (fun _:ByteArray=>True) (fun s=>[aS s]) fun _=>rB true):=by
 refine Sound.mdl Tryz.func4 rfl Tryz.ntmps4 ?_
 rintro s w-
 refine⟨by simp,?_⟩
 have hΓ:=env_cons (hsO Tryz.func14) deskS_s (env_cons (hsO Tryz.func11) deskI_s env_nil)
 by_cases hs:(s.size:Int)≤1048576
 ·have c1:=mDeskS_eq s (by omega)
  have c2:=mDeskI_eq s (by omega)
  generalize deskI s=O at*
  refine zJ ?_
  refine At.retA (by rw [Tryz.results4]) (he:=rfl)
 ·refine zJ ?_
  refine At.retA (by rw [Tryz.results4]) (he:=rfl)
theorem law_Desk (s:ByteArray){W:World}(gl:GlobOk none0 W):
  Calls Tryz.prog 4 #[.string s] W fun e w'=>e=.returned (.bool true)∧Below W.heap.size W w':=
 calls_says (args:=[aS s]) (vs:=[_]) lawDesk_s (mdl_eq (enc:=fun s:ByteArray=>[aS s]) (by intro a b h;simpa using h) s trivial) (RepAs.cons (aS_rep s) RepAs.nil) gl
end
end Go.Proofs.YtfgkfcfplodaoaaGreatDoor
