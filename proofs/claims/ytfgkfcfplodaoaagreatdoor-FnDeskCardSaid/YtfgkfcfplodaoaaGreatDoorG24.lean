/-
  Put together out of 2 texts.
-/
import Derived.Test.YtfgkfcfplodaoaaGreatDoorG15
import Derived.Test.YtfgkfcfplodaoaaGreatDoorG23
set_option linter.unusedSimpArgs false
set_option linter.unusedVariables false
set_option maxRecDepth 100000
set_option maxHeartbeats 16000000
namespace Go.Proofs.YtfgkfcfplodaoaaGreatDoor
open Go Go.RowKit
section
noncomputable def mBlkS:=mdl okB (fun x=>[aL cN x.1.lst,aS x.2,aL cN shaW]) fun x=>rL 3 1 cN (block x.1 x.2).lst
theorem cN_iff {a b:List Nat}:rowsF cN a=rowsF cN b↔a=b:=rowsF_iff fun x y h=>by simp [cN]at h;omega
theorem lst_inj {v w:W8}(h:v.lst=w.lst):v=w:=by
 obtain⟨a,b,c,d,e,f,g,q⟩:=v
 obtain⟨a',b',c',d',e',f',g',q'⟩:=w
 simp only [W8.lst,List.cons.injEq,and_true]at h
 obtain⟨rfl,rfl,rfl,rfl,rfl,rfl,rfl,rfl⟩:=h
 rfl
theorem mBlkS_eq (v:W8)(s:ByteArray)(h:v.ok)(hs:s.size=64):mBlkS [aL cN v.lst,aS s,aL cN shaW]=some (rL 3 1 cN (block v s).lst):=mdl_eq (by
 rintro⟨a,b⟩ ⟨d,e⟩ h
 simp only [List.cons.injEq,Arg.val.injEq,Leaf.sl.injEq,Leaf.sc.injEq,Value.string.injEq,cN_iff,true_and,and_true]at h
 rw [lst_inj h.1,h.2]) (v,s) ⟨h,hs⟩
noncomputable def mKeys:=mdl (fun _:Unit=>True) (fun _=>[]) (fun _=>rL 3 1 cN shaW)
theorem mKeys_eq:mKeys []=some (rL 3 1 cN shaW):=mdl_eq (by intro a b h;rfl) () trivial
theorem keys_s:Sound Tryz.prog 93 mKeys:=by
 refine Sound.mdl Tryz.func93 rfl Tryz.ntmps93 ?_
 rintro u w-
 refine⟨by simp,?_⟩
 have hΓ:=eN
 refine zJ ?_
 with_reducible apply W.ops
 refine WL.op (st1:=[.slot 1 (one (.all 1)),.blk 1 (.arr .ft 3 1 (rowsF cN shaW)),.slot 0 (one .nil)]) hΓ (by kernel_rfl) ?_
 refine zL ?_
 with_reducible apply WL.nil
 refine zR ?_
 refine At.retA (by rw [Tryz.results93]) (he:=rfl)
theorem pad_stop {n i:Nat}(hi:i≤zPd n)(h:(n+(i+1))%64=56):i=zPd n:=by unfold zPd at*;omega
theorem pad_go {n i:Nat}(hi:i≤zPd n)(h:¬(n+(i+1))%64=56):i+1≤zPd n:=by unfold zPd at*;omega
theorem pow256 {i:Nat}(h:i<8):(2:Nat)^(56-8*i)=256^(8-1-i):=by
 have e:56-8*i=8*(8-1-i):=by omega
 rw [e,Nat.pow_mul]
theorem shaSpec_s:Sound Tryz.prog 40 mSha:=by
 refine Sound.mdl Tryz.func40 rfl Tryz.ntmps40 ?_
 rintro s w hs
 refine⟨by simp,?_⟩
 replace hs:s.size≤16777216:=hs
 have hΓ:GSound Tryz.prog (look [(93,mKeys),(94,mBlkS)]):=env_cons (hsO Tryz.func93) keys_s (env_cons (hsO Tryz.func94) blockS_s env_nil)
 have h0:[[Leaf.sc (.int .u8 128)]]=rowsF cU8 (padZ 0):=rfl
 refine zJ ?_
 refine W.loopA (fun i=>i≤zPd s.size) (fun i:Nat=>[.slot 0 (vS s),.slot 3 (vI s.size),.slot 4 (one (.all 14)),.blk 14 (.arr .ft 5 1 (rowsF cU8 (padZ i)))]) (fun i=>zPd s.size-i) 0 (Nat.zero_le _) (h:=?_)
 rintro i hi
 clear h0
 have hz63:zPd s.size≤63:=by unfold zPd;omega
 have hpl:=padZ_len i
 have hpr:=rowsF_len cU8 (padZ i)
 have ht:((s.size:Int)+((i+1:Nat):Int)).tmod 64=(((s.size+(i+1))%64:Nat):Int):=by rw [Int.tmod_eq_emod_of_nonneg (by omega)];omega
 by_cases h56:(s.size+(i+1))%64=56
 ·have hiz:=pad_stop hi h56
  subst hiz
  have hb8:s.size*8=8*s.size:=by omega
  have hb9:(s.size:Int)*8=((8*s.size:Nat):Int):=by omega
  refine zR ?_
  have hk0:padZ (zPd s.size)=padZ (zPd s.size)++(fixB 8 (8*s.size)).take 0:=by simp
  refine W.loopA (fun i=>i≤8) (fun i:Nat=>[.slot 0 (vS s),.slot 5 (vI i),.slot 3 (vI s.size),.slot 4 (one (.all 14)),.blk 14 (.arr .ft 5 1 (rowsF cU8 (padZ (zPd s.size)++(fixB 8 (8*s.size)).take i)))]) (fun i=>8-i) 0 (Nat.zero_le _) (by rw [←hk0];clear hk0;exact subP) (h:=?_)
  clear hk0 ht h56
  rintro i hi8
  by_cases hlt:i<8
  ·have hget:=fixB_get (8*s.size) 8 i hlt
   have hsz:((padZ (zPd s.size))++(fixB 8 (8*s.size)).take i).length≤100:=by rw [List.length_append,List.length_take,fixB_len];omega
   have hap:rowsF cU8 (padZ (zPd s.size)++(fixB 8 (8*s.size)).take i)++[[.sc (.int .u8 ((8*s.size/2^(56-8*i)%256:Nat):Int))]]=rowsF cU8 (padZ (zPd s.size)++(fixB 8 (8*s.size)).take (i+1)):=by
    have hl:i<(fixB 8 (8*s.size)).length:=by rw [fixB_len];exact hlt
    have hv:(fixB 8 (8*s.size))[i]=8*s.size/2^(56-8*i)%256:=by
     rw [gsE hl]at hget
     rw [Option.some.inj hget,pow256 hlt]
    rw [List.take_succ_eq_append_getElem hl,hv,←List.append_assoc]
    exact cU8_app _ _
   clear hget
   have hN:8*s.size<9223372036854775808:=by omega
   generalize padZ (zPd s.size)++(fixB 8 (8*s.size)).take i=L at*
   obtain⟨L2,hL2⟩:∃L2,L2=padZ (zPd s.size)++(fixB 8 (8*s.size)).take (i+1):=⟨_,rfl⟩
   rw [←hL2]at hap
   generalize hn8:8*s.size=n8 at*
   have m1:min ((56:Int)-8*(i:Int)).toNat IntKind.i64.bits=56-8*i:=by
    have:((56:Int)-8*(i:Int)).toNat=56-8*i:=by omega
    rw [this]
    exact Nat.min_eq_left (by show 56-8*i≤64;omega)
   have m2:=fdiv_nat n8 (56-8*i)
   have hd:n8/2^(56-8*i)<9223372036854775808:=Nat.lt_of_le_of_lt (Nat.div_le_self _ _) hN
   have m3:=and255 hd
   have m4:=wrap_u8n (n:=n8/2^(56-8*i)%256) (by omega)
   have m5:IntKind.u64.wrap ((56:Int)-8*(i:Int))=56-8*(i:Int):=by rw [IntKind.wrap_u64];omega
   clear hpl hpr hd
   refine zR ?_
   subst hL2
   exact At.roundA (i+1) (by omega) (by omega)
  have hi8':i=8:=by omega
  subst hi8'
  have htk:(fixB 8 (8*s.size)).take 8=fixB 8 (8*s.size):=List.take_of_length_le (by rw [fixB_len];exact Nat.le_refl _)
  have hb:=bytes_rows (padZ (zPd s.size)++fixB 8 (8*s.size))
  have hps:s++(⟨((padZ (zPd s.size)++fixB 8 (8*s.size)).map UInt8.ofNat).toArray⟩:ByteArray)=padS s:=rfl
  have hsb:(⟨((padZ (zPd s.size)++fixB 8 (8*s.size)).map UInt8.ofNat).toArray⟩:ByteArray).size=zPd s.size+9:=by
   have:=bsS_size (padZ (zPd s.size)++fixB 8 (8*s.size))
   rw [List.length_append,padZ_len,fixB_len]at this
   exact this
  obtain⟨q,hq,hq2⟩:=padS_64 s
  have ck:=mKeys_eq
  have hfin:shaS s=bsS (outL (foldK (padS s) q) 8):=by unfold shaS shaW8;rw [hq,Nat.mul_div_cancel_left _ (by omega)]
  have hqs:(padS s).size≤64*17000000:=by omega
  have hs2:=hs
  clear hpl hpr hb8 hb9 hlt
  have hH:[[Leaf.sc (.int .i64 1779033703)],[Leaf.sc (.int .i64 3144134277)],[Leaf.sc (.int .i64 1013904242)],[Leaf.sc (.int .i64 2773480762)],[Leaf.sc (.int .i64 1359893119)],[Leaf.sc (.int .i64 2600822924)],[Leaf.sc (.int .i64 528734635)],[Leaf.sc (.int .i64 1541459225)]]=rowsF cN (foldK (padS s) 0).lst:=rfl
  generalize padS s=T at*
  refine zR ?_
  refine W.frzA 7 44 (h:=?_)
  refine W.loopA (fun j=>j≤q) (fun j:Nat=>[.slot 9 (vI ((64*j:Nat):Int)),.slot 7 (one (.sl (rowsF cN (foldK T j).lst))),.slot 8 (one (.all 45)),.slot 6 (vS T),.blk 45 (.arr .ft 3 1 (rowsF cN shaW))]) (fun j=>q-j) 0 (Nat.zero_le _) (h:=?_)
  clear hH hsb hps hb htk ck
  rintro j hj
  by_cases hlt:j<q
  ·have hx:(T.extract (64*j) (64*j+64)).size=64:=by rw [ByteArray.size_extract];omega
   have cb:=mBlkS_eq (foldK T j) (T.extract (64*j) (64*j+64)) (foldK_ok T j) hx
   have hnx:foldK T (j+1)=block (foldK T j) (T.extract (64*j) (64*j+64)):=rfl
   have e1:((64*j:Nat):Int)+64=((64*j+64:Nat):Int):=by omega
   have e2:((64*(j+1):Nat):Int)=((64*j+64:Nat):Int):=by omega
   refine zR ?_
   refine At.frzA 7 59 (h:=?_)
   exact At.roundA (j+1) (by omega) (by omega)
  have hjq:j=q:=by omega
  subst hjq
  have hvok:=foldK_ok T j
  generalize foldK T j=v at*
  have hn0:([]:List (List Leaf))=rowsF cU8 (outL v 0):=rfl
  refine zR ?_
  refine W.loopA (fun k=>k≤8) (fun k:Nat=>[.slot 11 (vI k),.slot 10 (one (.all 60)),.slot 7 (one (.sl (rowsF cN v.lst))),.blk 60 (.arr .ft 5 1 (rowsF cU8 (outL v k)))]) (fun k=>8-k) 0 (Nat.zero_le _) (h:=?_)
  clear hn0
  rintro k hk
  have hol:=outL_len v k hk
  have hvl:(rowsF cN v.lst).length=8:=rfl
  by_cases hlt8:k<8
  ·have g1:=rowN (v.lst_get hlt8)
   have b1:=W8.lst_lt hvok k
   have hs1:=outL_succ v hlt8
   generalize v.lst.getD k 0=x at*
   have hap:rowsF cU8 (outL v k)++[[.sc (.int .u8 ((x/2^24:Nat):Int))],[.sc (.int .u8 ((x/2^16%256:Nat):Int))],[.sc (.int .u8 ((x/2^8%256:Nat):Int))],[.sc (.int .u8 ((x%256:Nat):Int))]]=rowsF cU8 (outL v (k+1)):=by
    rw [hs1,←rowsF_app]
    have e1:x/2^24=x/256^3%256:=by
     show x/16777216=x/16777216%256
     omega
    have e2:x%256=x/256^0%256:=by rw [Nat.pow_zero,Nat.div_one]
    rw [e1,e2]
    rfl
   obtain⟨L2,hL2⟩:∃L2,L2=outL v (k+1):=⟨_,rfl⟩
   rw [←hL2]at hap
   clear hs1
   have f24:=fdiv_nat x 24
   have f16:=fdiv_nat x 16
   have f8:=fdiv_nat x 8
   have m24:min 24 IntKind.i64.bits=24:=rfl
   have m16:min 16 IntKind.i64.bits=16:=rfl
   have m8:min 8 IntKind.i64.bits=8:=rfl
   have n16:=and255 (m:=x/2^16) (by omega)
   have n8:=and255 (m:=x/2^8) (by omega)
   have n0:=and255 (m:=x) (by omega)
   have w24:=wrap_u8n (n:=x/2^24) (by omega)
   have w16:=wrap_u8n (n:=x/2^16%256) (by omega)
   have w8:=wrap_u8n (n:=x/2^8%256) (by omega)
   have w0:=wrap_u8n (n:=x%256) (by omega)
   refine zR ?_
   refine W.drawB hΓ 28 [[],[],[],[1,2],[1,2,3],[1,2,3,4],[1,2,3,4,5],[],[],[7,8],[7,8,9],[7,8,9,10],[7,8,9,10,11],[7,8,9,10,11,12],[],[],[14,15],[14,15,16],[14,15,16,17],[14,15,16,17,18],[14,15,16,17,18,19],[],[],[21,22],[21,22,23],[21,22,23,24],[21,22,23,24,25],[1,2,3,4,5,6,7,8,9,10,11,12,13,14,15,16,17,18,19,20,21,22,23,24,25,26],[0,1,2,3,4,5,6,7,8,9,10,11,12,13,14,15,16,17,18,19,20,21,22,23,24,25,26,27],[0,1,2,3,4,5,6,7,8,9,10,11,12,13,14,15,16,17,18,19,20,21,22,23,24,25,26,27,28]] (Es:=?Es16) (rest:=?rest16) (st1:=?st116) ?_
   refine zQ ?_
   subst hL2
   exact At.roundA (k+1) (by omega) (by omega)
  have hk8:k=8:=by omega
  subst hk8
  have hb:=bytes_rows (outL v 8)
  refine zR ?_
  refine At.retA (by rw [Tryz.results40]) (he:=?_)
  rw [hfin]
  rfl
 ·have hap:rowsF cU8 (padZ i)++[[.sc (.int .u8 0)]]=rowsF cU8 (padZ (i+1)):=by rw [←padZ_succ];exact cU8_app _ 0
  have hg:=pad_go hi h56
  refine zR ?_
  exact At.roundA (i+1) (by omega) (by omega)
end
section
theorem sizD {n:Int}(h:okDecZ n):(bsS (decZ n)).size≤11:=by
 rw [bsS_size]
 exact(decZ_len n).2
theorem szsL {l:List ByteArray}{m:Nat}(h:l.all (fun s=>decide (s.size≤m))=true){x:ByteArray}(hx:x∈l):x.size≤m:=of_decide_eq_true (List.all_eq_true.1 h x hx)
theorem l28Some_s:SoundCu Tryz.prog 58 (fun _:Unit=>True) (fun _=>[]) (fun _ s=>s.size≤50) (fun _ s=>rS s):=by
 refine SoundCu.of Tryz.func58 rfl Tryz.ntmps58 ?_
 rintro k0-b w hc-hB
 refine⟨by simp,?_⟩
 simp only [initC]
 have hΓ:=env_cons (hsO Tryz.func41) decZS_s env_nil
 have hBe:Has Tryz.prog 56:=hsO Tryz.func56
 have hPk:Has Tryz.prog 114:=hsO Tryz.func114
 have hSp:Has Tryz.prog 115:=hsO Tryz.func115
 have hcu:=lsNms_cu
 have hck:=kill_cu
 have w1:(⟨#[32]⟩:ByteArray).size=1:=rfl
 refine zI ?_
 refine zV ?_
 refine WL.op (st1:=[.slot 6 (one (.all 6)),.blk 6 (.arr .ft 9 1 (rowsF cStr [⟨#[115,116,97,114,116]⟩,⟨#[112,101,101,114]⟩,⟨#[112,101,101,114]⟩,⟨#[102,101,101,100]⟩,⟨#[102,101,101,100]⟩,⟨#[102,101,101,100]⟩,⟨#[108,105,101]⟩,⟨#[116,105,99,107]⟩,⟨#[116,105,99,107]⟩,⟨#[116,105,112]⟩,⟨#[115,101,101,110]⟩,⟨#[98,97,110,110,101,100]⟩,⟨#[114,111,111,116]⟩,⟨#[112,114,111,111,102]⟩,⟨#[99,104,97,105,110]⟩])),.slot 5 (one (.ptr 999 0)),.slot 2 (one (.sc (.string ⟨#[]⟩))),.slot 0 (one (.ptr 999 0)),.blk 999 (.box (cuL k0))]) hΓ (by kernel_rfl) ?_
 refine zL ?_
 refine WL.opCu hPk l1Pick_s k0 hc [⟨#[115,116,97,114,116]⟩,⟨#[112,101,101,114]⟩,⟨#[112,101,101,114]⟩,⟨#[102,101,101,100]⟩,⟨#[102,101,101,100]⟩,⟨#[102,101,101,100]⟩,⟨#[108,105,101]⟩,⟨#[116,105,99,107]⟩,⟨#[116,105,99,107]⟩,⟨#[116,105,112]⟩,⟨#[115,101,101,110]⟩,⟨#[98,97,110,110,101,100]⟩,⟨#[114,111,111,116]⟩,⟨#[112,114,111,111,102]⟩,⟨#[99,104,97,105,110]⟩] ⟨by decide,by decide⟩ (h:=?_)
 rintro k1 cmd hk1 hcmd
 have hcs:cmd.size≤6:=szsL rfl hcmd
 clear hcmd
 refine zM ?_
 refine W.meet2 (c:=?codeK) (Q:=?postK) (fun x:Cu×ByteArray=>CuTo k0 x.1∧x.2.size≤40) (fun x=>[.slot 0 (one (.ptr 999 0)),.blk 999 (.box (cuL x.1)),.slot 4 (vS x.2)]) ?main ?part
 case main=>
  intro key
  refine W.subA [.slot 0 (one (.ptr 999 0)),.blk 999 (.box (cuL k1)),.slot 3 (vS cmd)] (h:=?_)
  refine zR ?_
  by_cases e_start:cmd=⟨#[115,116,97,114,116]⟩
  ·have t_start:decide (cmd=(⟨#[115,116,97,114,116]⟩:ByteArray))=true:=dcT e_start
   clear e_start
   refine zR ?_
   have y1:=bsA (a:=cmd) (b:=⟨#[32]⟩)
   refine zK ?_
   refine WL.opCu hBe l1Below_s k1 hk1.ok 40 (by decide) (h:=?_)
   rintro k11 n11 hk11 ⟨hn11,hm11,-⟩
   replace hm11:n11<40:=hm11 (by decide)
   have hz11:okDecZ (5+n11):=⟨by omega,by omega⟩
   have c11:=mDecZ_eq (5+n11) hz11
   have hd11:=sizD hz11
   generalize bsS (decZ (5+n11))=D11 at c11 hd11
   clear hz11
   have y2:=bsA (a:=cmd++⟨#[32]⟩) (b:=D11)
   have y3:=bsA (a:=cmd++⟨#[32]⟩++D11) (b:=⟨#[32]⟩)
   refine zL ?_
   refine WL.opCu hBe l1Below_s k11 hk11.ok 9 (by decide) (h:=?_)
   rintro k12 n12 hk12 ⟨hn12,hm12,-⟩
   replace hm12:n12<9:=hm12 (by decide)
   have hz12:okDecZ (n12):=⟨by omega,by omega⟩
   have c12:=mDecZ_eq (n12) hz12
   have hd12:=sizD hz12
   generalize bsS (decZ (n12))=D12 at c12 hd12
   clear hz12
   have y4:=bsA (a:=cmd++⟨#[32]⟩++D11++⟨#[32]⟩) (b:=D12)
   refine zQ ?_
   refine W.subA [.slot 0 (one (.ptr 999 0)),.blk 999 (.box (cuL k12)),.slot 4 (vS (cmd++⟨#[32]⟩++D11++⟨#[32]⟩++D12))] (h:=?_)
   exact key (k12,cmd++⟨#[32]⟩++D11++⟨#[32]⟩++D12) ⟨(hk1.trans hk11).trans hk12,by dsimp only;omega⟩
  have t_start:decide (cmd=(⟨#[115,116,97,114,116]⟩:ByteArray))=false:=dcF e_start
  clear e_start
  by_cases e_chain:cmd=⟨#[99,104,97,105,110]⟩
  ·have t_chain:decide (cmd=(⟨#[99,104,97,105,110]⟩:ByteArray))=true:=dcT e_chain
   clear e_chain
   refine zR ?_
   have y1:=bsA (a:=cmd) (b:=⟨#[32]⟩)
   refine zK ?_
   refine WL.opCu hPk l1Pick_s k1 hk1.ok [⟨#[97]⟩,⟨#[98]⟩,⟨#[]⟩] ⟨by decide,by decide⟩ (h:=?_)
   rintro kp x hkp hx
   have hxs:x.size≤1:=szsL rfl hx
   clear hx
   have y2:=bsA (a:=cmd++⟨#[32]⟩) (b:=x)
   have y3:=bsA (a:=cmd++⟨#[32]⟩++x) (b:=⟨#[32]⟩)
   refine zL ?_
   refine WL.opCu hBe l1Below_s kp hkp.ok 7 (by decide) (h:=?_)
   rintro k13 n13 hk13 ⟨hn13,hm13,-⟩
   replace hm13:n13<7:=hm13 (by decide)
   have hz13:okDecZ (n13):=⟨by omega,by omega⟩
   have c13:=mDecZ_eq (n13) hz13
   have hd13:=sizD hz13
   generalize bsS (decZ (n13))=D13 at c13 hd13
   clear hz13
   have y4:=bsA (a:=cmd++⟨#[32]⟩++x++⟨#[32]⟩) (b:=D13)
   refine zQ ?_
   refine W.subA [.slot 0 (one (.ptr 999 0)),.blk 999 (.box (cuL k13)),.slot 4 (vS (cmd++⟨#[32]⟩++x++⟨#[32]⟩++D13))] (h:=?_)
   exact key (k13,cmd++⟨#[32]⟩++x++⟨#[32]⟩++D13) ⟨(hk1.trans hkp).trans hk13,by dsimp only;omega⟩
  have t_chain:decide (cmd=(⟨#[99,104,97,105,110]⟩:ByteArray))=false:=dcF e_chain
  clear e_chain
  by_cases e_feed:cmd=⟨#[102,101,101,100]⟩
  ·have t_feed:decide (cmd=(⟨#[102,101,101,100]⟩:ByteArray))=true:=dcT e_feed
   clear e_feed
   refine zR ?_
   have y1:=bsA (a:=cmd) (b:=⟨#[32]⟩)
   refine zK ?_
   refine WL.opCu hBe l1Below_s k1 hk1.ok 3 (by decide) (h:=?_)
   rintro k14 n14 hk14 ⟨hn14,hm14,-⟩
   replace hm14:n14<3:=hm14 (by decide)
   have hz14:okDecZ (1+n14):=⟨by omega,by omega⟩
   have c14:=mDecZ_eq (1+n14) hz14
   have hd14:=sizD hz14
   generalize bsS (decZ (1+n14))=D14 at c14 hd14
   clear hz14
   have y2:=bsA (a:=cmd++⟨#[32]⟩) (b:=D14)
   have y3:=bsA (a:=cmd++⟨#[32]⟩++D14) (b:=⟨#[32]⟩)
   refine zL ?_
   refine WL.opCu hBe l1Below_s k14 hk14.ok 6 (by decide) (h:=?_)
   rintro k15 n15 hk15 ⟨hn15,hm15,-⟩
   replace hm15:n15<6:=hm15 (by decide)
   have hz15:okDecZ (n15):=⟨by omega,by omega⟩
   have c15:=mDecZ_eq (n15) hz15
   have hd15:=sizD hz15
   generalize bsS (decZ (n15))=D15 at c15 hd15
   clear hz15
   have y4:=bsA (a:=cmd++⟨#[32]⟩++D14++⟨#[32]⟩) (b:=D15)
   refine zQ ?_
   refine W.subA [.slot 0 (one (.ptr 999 0)),.blk 999 (.box (cuL k15)),.slot 4 (vS (cmd++⟨#[32]⟩++D14++⟨#[32]⟩++D15))] (h:=?_)
   exact key (k15,cmd++⟨#[32]⟩++D14++⟨#[32]⟩++D15) ⟨(hk1.trans hk14).trans hk15,by dsimp only;omega⟩
  have t_feed:decide (cmd=(⟨#[102,101,101,100]⟩:ByteArray))=false:=dcF e_feed
  clear e_feed
  by_cases e_lie:cmd=⟨#[108,105,101]⟩
  ·have t_lie:decide (cmd=(⟨#[108,105,101]⟩:ByteArray))=true:=dcT e_lie
   clear e_lie
   refine zR ?_
   have y1:=bsA (a:=cmd) (b:=⟨#[32]⟩)
   refine zK ?_
   refine WL.opCu hBe l1Below_s k1 hk1.ok 3 (by decide) (h:=?_)
   rintro k16 n16 hk16 ⟨hn16,hm16,-⟩
   replace hm16:n16<3:=hm16 (by decide)
   have hz16:okDecZ (1+n16):=⟨by omega,by omega⟩
   have c16:=mDecZ_eq (1+n16) hz16
   have hd16:=sizD hz16
   generalize bsS (decZ (1+n16))=D16 at c16 hd16
   clear hz16
   have y2:=bsA (a:=cmd++⟨#[32]⟩) (b:=D16)
   have y3:=bsA (a:=cmd++⟨#[32]⟩++D16) (b:=⟨#[32]⟩)
   refine zL ?_
   refine WL.opCu hBe l1Below_s k16 hk16.ok 6 (by decide) (h:=?_)
   rintro k17 n17 hk17 ⟨hn17,hm17,-⟩
   replace hm17:n17<6:=hm17 (by decide)
   have hz17:okDecZ (n17):=⟨by omega,by omega⟩
   have c17:=mDecZ_eq (n17) hz17
   have hd17:=sizD hz17
   generalize bsS (decZ (n17))=D17 at c17 hd17
   clear hz17
   have y4:=bsA (a:=cmd++⟨#[32]⟩++D16++⟨#[32]⟩) (b:=D17)
   refine zQ ?_
   refine W.subA [.slot 0 (one (.ptr 999 0)),.blk 999 (.box (cuL k17)),.slot 4 (vS (cmd++⟨#[32]⟩++D16++⟨#[32]⟩++D17))] (h:=?_)
   exact key (k17,cmd++⟨#[32]⟩++D16++⟨#[32]⟩++D17) ⟨(hk1.trans hk16).trans hk17,by dsimp only;omega⟩
  have t_lie:decide (cmd=(⟨#[108,105,101]⟩:ByteArray))=false:=dcF e_lie
  clear e_lie
  by_cases e_peer:cmd=⟨#[112,101,101,114]⟩
  ·have t_peer:decide (cmd=(⟨#[112,101,101,114]⟩:ByteArray))=true:=dcT e_peer
   clear e_peer
   refine zR ?_
   have y1:=bsA (a:=cmd) (b:=⟨#[32]⟩)
   refine zK ?_
   refine WL.opCu hBe l1Below_s k1 hk1.ok 5 (by decide) (h:=?_)
   rintro k18 n18 hk18 ⟨hn18,hm18,-⟩
   replace hm18:n18<5:=hm18 (by decide)
   have hz18:okDecZ (1+n18):=⟨by omega,by omega⟩
   have c18:=mDecZ_eq (1+n18) hz18
   have hd18:=sizD hz18
   generalize bsS (decZ (1+n18))=D18 at c18 hd18
   clear hz18
   have y2:=bsA (a:=cmd++⟨#[32]⟩) (b:=D18)
   refine zQ ?_
   refine W.subA [.slot 0 (one (.ptr 999 0)),.blk 999 (.box (cuL k18)),.slot 4 (vS (cmd++⟨#[32]⟩++D18))] (h:=?_)
   exact key (k18,cmd++⟨#[32]⟩++D18) ⟨hk1.trans hk18,by dsimp only;omega⟩
  have t_peer:decide (cmd=(⟨#[112,101,101,114]⟩:ByteArray))=false:=dcF e_peer
  clear e_peer
  by_cases e_seen:cmd=⟨#[115,101,101,110]⟩
  ·have t_seen:decide (cmd=(⟨#[115,101,101,110]⟩:ByteArray))=true:=dcT e_seen
   clear e_seen
   refine zR ?_
   have y1:=bsA (a:=cmd) (b:=⟨#[32]⟩)
   refine zK ?_
   refine WL.opCu hBe l1Below_s k1 hk1.ok 5 (by decide) (h:=?_)
   rintro k19 n19 hk19 ⟨hn19,hm19,-⟩
   replace hm19:n19<5:=hm19 (by decide)
   have hz19:okDecZ (1+n19):=⟨by omega,by omega⟩
   have c19:=mDecZ_eq (1+n19) hz19
   have hd19:=sizD hz19
   generalize bsS (decZ (1+n19))=D19 at c19 hd19
   clear hz19
   have y2:=bsA (a:=cmd++⟨#[32]⟩) (b:=D19)
   refine zQ ?_
   refine W.subA [.slot 0 (one (.ptr 999 0)),.blk 999 (.box (cuL k19)),.slot 4 (vS (cmd++⟨#[32]⟩++D19))] (h:=?_)
   exact key (k19,cmd++⟨#[32]⟩++D19) ⟨hk1.trans hk19,by dsimp only;omega⟩
  have t_seen:decide (cmd=(⟨#[115,101,101,110]⟩:ByteArray))=false:=dcF e_seen
  clear e_seen
  by_cases e_proof:cmd=⟨#[112,114,111,111,102]⟩
  ·have t_proof:decide (cmd=(⟨#[112,114,111,111,102]⟩:ByteArray))=true:=dcT e_proof
   clear e_proof
   refine zR ?_
   have y1:=bsA (a:=cmd) (b:=⟨#[32]⟩)
   refine zK ?_
   refine WL.opCu hBe l1Below_s k1 hk1.ok 5 (by decide) (h:=?_)
   rintro k20 n20 hk20 ⟨hn20,hm20,-⟩
   replace hm20:n20<5:=hm20 (by decide)
   have hz20:okDecZ (1+n20):=⟨by omega,by omega⟩
   have c20:=mDecZ_eq (1+n20) hz20
   have hd20:=sizD hz20
   generalize bsS (decZ (1+n20))=D20 at c20 hd20
   clear hz20
   have y2:=bsA (a:=cmd++⟨#[32]⟩) (b:=D20)
   refine zQ ?_
   refine W.subA [.slot 0 (one (.ptr 999 0)),.blk 999 (.box (cuL k20)),.slot 4 (vS (cmd++⟨#[32]⟩++D20))] (h:=?_)
   exact key (k20,cmd++⟨#[32]⟩++D20) ⟨hk1.trans hk20,by dsimp only;omega⟩
  have t_proof:decide (cmd=(⟨#[112,114,111,111,102]⟩:ByteArray))=false:=dcF e_proof
  clear e_proof
  by_cases e_tick:cmd=⟨#[116,105,99,107]⟩
  ·have t_tick:decide (cmd=(⟨#[116,105,99,107]⟩:ByteArray))=true:=dcT e_tick
   clear e_tick
   refine zR ?_
   have y1:=bsA (a:=cmd) (b:=⟨#[32]⟩)
   refine zK ?_
   refine WL.opCu hBe l1Below_s k1 hk1.ok 7 (by decide) (h:=?_)
   rintro k21 n21 hk21 ⟨hn21,hm21,-⟩
   replace hm21:n21<7:=hm21 (by decide)
   have hz21:okDecZ (1+n21):=⟨by omega,by omega⟩
   have c21:=mDecZ_eq (1+n21) hz21
   have hd21:=sizD hz21
   generalize bsS (decZ (1+n21))=D21 at c21 hd21
   clear hz21
   have y2:=bsA (a:=cmd++⟨#[32]⟩) (b:=D21)
   refine zQ ?_
   refine W.subA [.slot 0 (one (.ptr 999 0)),.blk 999 (.box (cuL k21)),.slot 4 (vS (cmd++⟨#[32]⟩++D21))] (h:=?_)
   exact key (k21,cmd++⟨#[32]⟩++D21) ⟨hk1.trans hk21,by dsimp only;omega⟩
  have t_tick:decide (cmd=(⟨#[116,105,99,107]⟩:ByteArray))=false:=dcF e_tick
  clear e_tick
  refine zR ?_
  refine W.subA [.slot 0 (one (.ptr 999 0)),.blk 999 (.box (cuL k1)),.slot 4 (vS cmd)] (h:=?_)
  exact key (k1,cmd) ⟨hk1,by dsimp only;omega⟩
 case part=>
  rintro⟨k2,s⟩ ⟨hk2,hs⟩
  dsimp only at hk2 hs⊢
  refine zV ?_
  refine WL.opCu hBe l1Below_s k2 hk2.ok 16 (by decide) (h:=?_)
  rintro k3 q hk3-
  have hk30:=hk2.trans hk3
  refine zM ?_
  by_cases q0:q=0
  ·subst q0
   refine zV ?_
   refine WL.opCu hSp l1Spoil_s k3 hk3.ok s (by omega) (h:=?_)
   rintro k4 x hk4 hx
   replace hx:x.size≤s.size+3:=hx
   refine zQ ?_
   refine At.retCu (by rw [Tryz.results58]) hB (hls:=?_) (he:=?_) k4 x (hk30.trans hk4) (by omega)
   ·rfl
   ·rfl
  ·by_cases q1:q=1
   ·subst q1
    refine zV ?_
    refine WL.opCu hPk l1Pick_s k3 hk3.ok [⟨#[]⟩,⟨#[32]⟩,⟨#[119,104,97,116]⟩,⟨#[116,105,112,32,49]⟩,⟨#[102,101,101,100,32,49]⟩,⟨#[99,104,97,105,110,32,97]⟩,⟨#[116,105,99,107,32,120]⟩,⟨#[115,116,97,114,116,32,32,49]⟩] ⟨by decide,by decide⟩ (h:=?_)
    rintro k4 x hk4 hx
    have hxs:x.size≤9:=szsL rfl hx
    clear hx
    refine zQ ?_
    refine At.retCu (by rw [Tryz.results58]) hB (hls:=?_) (he:=?_) k4 x (hk30.trans hk4) (by omega)
    ·rfl
    ·rfl
   ·refine zR ?_
    refine At.retCu (by rw [Tryz.results58]) hB (hls:=?_) (he:=?_) k3 s hk30 (by omega)
    ·rfl
    ·rfl
def size1 (bs:List Nat)(m:Int):Int:=if m<2+(bs.length:Int)/20 then m else 2+(bs.length:Int)/20
noncomputable def mSize1:=mdl (fun x:List Nat×Int=>x.1.length≤140737488355328∧inI64 x.2) (fun x=>[aL cU8 x.1,aI x.2]) (fun x=>rI (size1 x.1 x.2))
theorem mSize1_eq (bs:List Nat)(m:Int)(h:bs.length≤140737488355328)(hm:inI64 m):mSize1 [aL cU8 bs,aI m]=some (rI (size1 bs m)):=mdl_eq (by
 rintro⟨a,b⟩ ⟨a',b'⟩ h
 simpa [rowsF_U8]using h) (bs,m) ⟨h,hm⟩
theorem l1Size_s:Sound Tryz.prog 57 mSize1:=by
 refine Sound.mdl Tryz.func57 rfl Tryz.ntmps57 ?_
 rintro⟨bs,m⟩ w ⟨hl,hm⟩
 refine⟨by simp,?_⟩
 dsimp only at hl hm
 have hΓ:=eN
 have hlen:=rowsF_len cU8 bs
 have hd:((bs.length:Int)).tdiv 20=(bs.length:Int)/20:=Int.tdiv_eq_ediv_of_nonneg (by omega)
 have hnz:((20:Int)=0)=False:=by simp
 obtain⟨n,hn⟩:∃n:Int,n=(bs.length:Int)/20:=⟨_,rfl⟩
 have hn0:0≤n:=by omega
 have hn1:n≤140737488355328:=by omega
 have hv:size1 bs m=if m<2+n then m else 2+n:=by rw [hn];rfl
 rw [←hn]at hd
 clear hn
 replace hv:=Lib.hid hv
 refine zI ?_
 by_cases h1:m<2+n
 ·refine zR ?_
  refine At.retA (by rw [Tryz.results57]) (he:=?_)
  rw [hv.out,if_pos h1]
 ·refine zR ?_
  refine At.retA (by rw [Tryz.results57]) (he:=?_)
  rw [hv.out,if_neg h1]
theorem DrawDesk_s:SoundR Tryz.prog 15 CodeOk (fun bs=>[aL cU8 bs]) (fun _ s=>s.size≤4000) (fun _ s=>rS s):=by
 refine SoundR.ofXA Tryz.func15 rfl Tryz.ntmps15 (by decide) ?_
 rintro bs v w hcode
 simp only [initX]
 have hΓ:=env_cons (hsO Tryz.func57) l1Size_s env_nil
 have hNw:Has Tryz.prog 54:=hsO Tryz.func54
 have hBe:Has Tryz.prog 56:=hsO Tryz.func56
 have hOn:Has Tryz.prog 55:=hsO Tryz.func55
 have hSo:Has Tryz.prog 58:=hsO Tryz.func58
 have hcu:=lsNms_cu
 have hck:=kill_cu
 have c1:=mSize1_eq bs 24 hcode.2 (by decide)
 have hs1:2≤size1 bs 24∧size1 bs 24≤24:=by unfold size1;split<;>omega
 generalize size1 bs 24=n0 at*
 refine zV ?_
 refine WL.opNew hNw l1New_s v bs hcode (h:=?_)
 intro k0 hk0
 refine zM ?_
 refine zV ?_
 refine WL.opCu hOn l1Once_s k0 hk0 4 (by decide) (h:=?_)
 rintro k1 o hk1-
 refine zM ?_
 refine W.meet2 (c:=?codeK) (Q:=?postK) (fun s:ByteArray=>s.size≤36) (fun s=>[.slot 0 (one (.xl v (rowsF cU8 bs))),.slot 3 (one (.ptr 8 0)),.blk 8 (.box (cuL k1)),.slot 4 (vS s)]) ?main ?part
 case main=>
  intro key
  cases o with
  |false=>
   refine zR ?_
   refine W.subA [.slot 0 (one (.xl v (rowsF cU8 bs))),.slot 3 (one (.ptr 8 0)),.blk 8 (.box (cuL k1)),.slot 4 (vS (⟨#[99,104,97,105,110,32,97,32,53,10,115,116,97,114,116,32,51,48,32,53,10,112,101,101,114,32,49,10,112,101,101,114,32,50,10]⟩:ByteArray))] (h:=?_)
   exact key (⟨#[99,104,97,105,110,32,97,32,53,10,115,116,97,114,116,32,51,48,32,53,10,112,101,101,114,32,49,10,112,101,101,114,32,50,10]⟩:ByteArray) (by decide)
  |true=>
   refine zR ?_
   refine W.subA [.slot 0 (one (.xl v (rowsF cU8 bs))),.slot 3 (one (.ptr 8 0)),.blk 8 (.box (cuL k1)),.slot 4 (vS (⟨#[]⟩:ByteArray))] (h:=?_)
   exact key (⟨#[]⟩:ByteArray) (by decide)
 case part=>
  rintro s hs
  have w1:(⟨#[10]⟩:ByteArray).size=1:=rfl
  refine zV ?_
  refine WL.opCu hBe l1Below_s k1 hk1.ok n0 ⟨by omega,by omega⟩ (h:=?_)
  rintro k2 n hk2 ⟨hn0,hn1,-⟩
  replace hn1:n<n0:=hn1 (by omega)
  have hn24:n≤24:=by omega
  clear c1 hs1 hn1
  refine zQ ?_
  refine W.loopA (fun x:ByteArray×Int×Cu=>CuOk x.2.2∧0≤x.2.1∧x.2.1≤24∧x.1.size+51*x.2.1≤1260) (fun x=>[.slot 3 (one (.ptr 8 0)),.blk 8 (.box (cuL x.2.2)),.slot 4 (vS x.1),.slot 5 (vI x.2.1)]) (fun x=>x.2.1.toNat) (s,n,k2) ⟨hk2.ok,hn0,by dsimp only;omega,by dsimp only;omega⟩ (h:=?_)
  clear hn0 hn24 hs
  rintro⟨s,n,k⟩ ⟨hk,hn0,hn24,hs⟩
  dsimp only at hk hn0 hn24 hs⊢
  by_cases hp:0<n
  ·refine zV ?_
   refine WL.opCu hSo l28Some_s k hk () trivial (h:=?_)
   rintro k3 x hk3 hx
   replace hx:x.size≤50:=hx
   have y1:=bsA (a:=s) (b:=x)
   have y2:=bsA (a:=s++x) (b:=⟨#[10]⟩)
   refine zQ ?_
   exact At.roundA (s++x++⟨#[10]⟩,n-1,k3) ⟨hk3.ok,by dsimp only;omega,by dsimp only;omega,by dsimp only;omega⟩ (by dsimp only;omega)
  ·have hs2:s.size≤1260:=by omega
   clear hs hn0 hn24
   refine zV ?_
   refine WL.opCu hOn l1Once_s k hk 4 (by decide) (h:=?_)
   rintro k3 o hk3-
   refine zM ?_
   refine W.meet2 (c:=?codeL) (Q:=?postL) (fun x:Cu×ByteArray=>CuOk x.1∧x.2.size≤1400) (fun x=>[.slot 3 (one (.ptr 8 0)),.blk 8 (.box (cuL x.1)),.slot 4 (vS x.2)]) ?mainL ?partL
   case mainL=>
    intro key
    cases o with
    |false=>
     refine zR ?_
     refine W.subA [.slot 3 (one (.ptr 8 0)),.blk 8 (.box (cuL k3)),.slot 4 (vS s)] (h:=?_)
     exact key (k3,s) ⟨hk3.ok,by dsimp only;omega⟩
    |true=>
     refine zV ?_
     refine WL.opCu hSo l28Some_s k3 hk3.ok () trivial (h:=?_)
     rintro k4 x hk4 hx
     replace hx:x.size≤50:=hx
     have y1:=bsA (a:=s) (b:=x)
     refine zQ ?_
     refine W.subA [.slot 3 (one (.ptr 8 0)),.blk 8 (.box (cuL k4)),.slot 4 (vS (s++x))] (h:=?_)
     exact key (k4,s++x) ⟨hk4.ok,by dsimp only;omega⟩
   case partL=>
    clear hs2 hp
    rintro⟨k4,s⟩ ⟨hk4,hs⟩
    dsimp only at hk4 hs⊢
    refine zV ?_
    refine WL.opCu hOn l1Once_s k4 hk4 40 (by decide) (h:=?_)
    rintro k5 o hk5-
    refine zM ?_
    cases o with
    |false=>
     refine zR ?_
     refine At.retRA (by rw [Tryz.results15]) (he:=?_) s (show s.size≤4000 by omega)
     rfl
    |true=>
     have w4:(⟨#[116,105,112,10]⟩:ByteArray).size=4:=rfl
     refine zR ?_
     refine W.loopA (fun x:ByteArray×Int×Cu=>CuOk x.2.2∧0≤x.2.1∧x.2.1≤81∧x.1.size≤1400+4*x.2.1) (fun x=>[.slot 3 (one (.ptr 8 0)),.blk 8 (.box (cuL x.2.2)),.slot 4 (vS x.1),.slot 6 (vI x.2.1)]) (fun x=>(81-x.2.1).toNat) (s,0,k5) ⟨hk5.ok,by dsimp only;omega,by dsimp only;omega,by dsimp only;omega⟩ (h:=?_)
     clear hs
     rintro⟨s,i,k⟩ ⟨hk,hi0,hi1,hs⟩
     dsimp only at hk hi0 hi1 hs⊢
     refine zV ?_
     refine WL.opCu hBe l1Below_s k hk 2 (by decide) (h:=?_)
     rintro k6 r hk6 ⟨hr0,hr1,-⟩
     replace hr1:r<2:=hr1 (by decide)
     refine zM ?_
     by_cases hlt:i<80+r
     ·have y1:=bsA (a:=s) (b:=⟨#[116,105,112,10]⟩)
      refine zR ?_
      exact At.roundA (s++⟨#[116,105,112,10]⟩,i+1,k6) ⟨hk6.ok,by dsimp only;omega,by dsimp only;omega,by dsimp only;omega⟩ (by dsimp only;omega)
     ·refine zR ?_
      refine At.retRA (by rw [Tryz.results15]) (he:=?_) s (show s.size≤4000 by omega)
      rfl
end
end Go.Proofs.YtfgkfcfplodaoaaGreatDoor
