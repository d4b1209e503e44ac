/-
  Put together out of 3 texts.
-/
import Derived.Test.YtfgkfcfplodaoaaGreatDoorG20
import Derived.Test.YtfgkfcfplodaoaaGreatDoorG22
set_option linter.unusedSimpArgs false
set_option linter.unusedVariables false
set_option maxRecDepth 100000
namespace Go.Proofs.YtfgkfcfplodaoaaGreatDoor
open Go Go.RowKit
section
set_option maxHeartbeats 4000000
def rSpoil (s t:ByteArray):Prop:=t.size≤s.size+3
theorem l1Spoil_s:SoundCu Tryz.prog 115 (fun s:ByteArray=>s.size≤1048576) (fun s=>[aS s]) rSpoil (fun _ s=>rS s):=by
 refine SoundCu.of Tryz.func115 rfl Tryz.ntmps115 ?_
 rintro k0 s b w hc hs hB
 refine⟨by simp,?_⟩
 simp only [initC]
 have hΓ:=eN
 have hBe:Has Tryz.prog 56:=hsO Tryz.func56
 have hBy:Has Tryz.prog 113:=hsO Tryz.func113
 have hTe:Has Tryz.prog 164:=hsO Tryz.func164
 obtain⟨g,hg,hg2⟩:=wrap_u8_ex
 have hcu:=lsNms_cu
 have hck:=kill_cu
 refine zI ?_
 by_cases h0:s.size=0
 ·refine zV ?_
  refine WL.opCu hTe l1Text_s k0 hc 3 (by decide) (h:=?_)
  rintro k1 t hk1 ht
  refine zQ ?_
  refine At.retCu (by rw [Tryz.results115]) hB (hls:=?_) (he:=?_) k1 t hk1 (show t.size≤s.size+3 by have:(t.size:Int)≤3:=ht;omega)
  ·rfl
  ·rfl
 ·refine zV ?_
  refine WL.opCu hBe l1Below_s k0 hc (s.size:Int) ⟨by omega,by omega⟩ (h:=?_)
  rintro k1 k hk1 ⟨hk0,hks,-⟩
  replace hks:k<s.size:=hks (by omega)
  refine zM ?_
  refine zV ?_
  refine WL.opCu hBe l1Below_s k1 hk1.ok 4 (by decide) (h:=?_)
  rintro k2 q hk2 ⟨hq0,hq1,-⟩
  have hk20:=hk1.trans hk2
  refine zM ?_
  have z1:(s.extract 0 k.toNat).size=k.toNat:=by rw [ByteArray.size_extract];omega
  have z2:(s.extract (k+1).toNat s.size).size=s.size-(k+1).toNat:=by rw [ByteArray.size_extract];omega
  have z3:(s.extract k.toNat s.size).size=s.size-k.toNat:=by rw [ByteArray.size_extract];omega
  by_cases e0:q=0
  ·subst e0
   have z4:=bsA (a:=s.extract 0 k.toNat) (b:=s.extract (k+1).toNat s.size)
   refine zR ?_
   refine W.drawB hΓ 9 [[],[],[0,1],[],[],[4],[3,4,5],[0,1,2,3,4,5,6],[0,1,2,3,4,5,6,7]] (Es:=?Es16) (rest:=?rest16) (st1:=?st116) ?_
   refine zQ ?_
   refine At.retCu (by rw [Tryz.results115]) hB (hls:=?_) (he:=?_) k2 (s.extract 0 k.toNat++s.extract (k+1).toNat s.size) hk20 (show(_++_:ByteArray).size≤s.size+3 by omega)
   ·rfl
   ·rfl
  ·by_cases e1:q=1
   ·subst e1
    refine zR ?_
    refine W.oneA hΓ 14 [[],[],[0,1],[],[3],[3,4],[3,4,5],[3,4,5,6],[0,1,2,3,4,5,6,7],[],[],[9,10],[0,1,2,3,4,5,6,7,8,9,10,11],[0,1,2,3,4,5,6,7,8,9,10,11,12]] 4 hBy l1Byte_s k2 hk2.ok () trivial (fun r=>vI r) (EsA:=?EsA20) (EsB:=?EsB20) (restA:=?rA20) (rest:=?rest20) (stX:=?stX20) (d:=?d20) (t0:=?t020) (xs:=?xs20) (ts:=?ts20) (ty:=?ty20) (pos:=?pos20) (after:=?after20) (m:=999) (h:=?h20) (hxp:=by decide) (hoX:=?hoX20) (hN:=?hN20) (hfA:=?hfA20) (hpA:=?hpA20) (hdA:=?hdA20) (hfrA:=?hfr20) (hneA:=?hne20) (hpk:=?hpk20) (ht:=?ht20) (hb:=?hb20) (ha:=?ha20) (hst:=?hst20) (hB:=?hB20)
    case h20=>kernel_rfl
    case hoX20=>rfl
    case hN20=>decide
    case hfA20=>
     repeat(first|refine FlowX.skA 4 (h:=?_)|refine FlowX.opA (h:=?_))
     exact FlowX.done
    case hpA20=>rfl
    case hdA20=>rfl
    case hfr20=>rfl
    case hne20=>rfl
    case hpk20=>
     simp (disch:=decide) only [pick_nil,pick_t,pick_f,List.cons_append,List.nil_append,Nat.reduceAdd]
     rfl
    case ht20=>exact evsP
    case hb20=>exact evcP
    case ha20=>
     intro st
     exact evcP
    case hst20=>
     intro c' b st
     exact evcP
    rotate_left 2
    intro c' r hto hrel
    obtain⟨hr0,hr1⟩:=hrel
    have z5:(bsS [g r]).size=1:=rfl
    have hb1:bytesE [[Leaf.sc (.int .u8 ((g r:Nat):Int))]]=some [UInt8.ofNat (g r)]:=bytes_rows [g r]
    have z6:=bsA (a:=s.extract 0 k.toNat) (b:=bsS [g r])
    have z7:=bsA (a:=s.extract 0 k.toNat++bsS [g r]) (b:=s.extract k.toNat s.size)
    have hbs:(⟨([UInt8.ofNat (g r)]).toArray⟩:ByteArray)=bsS [g r]:=rfl
    refine⟨?_,?_,?_,?_,?_,?_,?_,?_⟩
    ·repeat(first|refine FlowX.skB 4 (h:=?_)|refine FlowX.opA (h:=?_))
     exact FlowX.done
    ·rfl
    ·rfl
    ·rfl
    ·rfl
    ·rfl
    ·rfl
    ·refine WL.cast (st':=?st1) ?hst1 ?hw1
     case hst1=>
      simp only [pick_nil,pick_all,List.cons_append,List.nil_append]
      rfl
     with_reducible apply WL.nil
     refine zR ?_
     refine At.retCu (by rw [Tryz.results115]) hB (hls:=?_) (he:=?_) c' (s.extract 0 k.toNat++bsS [g r]++s.extract k.toNat s.size) (hk20.trans hto) (show(_++_:ByteArray).size≤s.size+3 by omega)
     ·rfl
     ·rfl
   ·by_cases e2:q=2
    ·subst e2
     refine zR ?_
     refine At.retCu (by rw [Tryz.results115]) hB (hls:=?_) (he:=?_) k2 (s.extract 0 k.toNat) hk20 (show(_:ByteArray).size≤s.size+3 by omega)
     ·rfl
     ·rfl
    ·have hlt:k.toNat<s.data.toList.length:=by
      have:s.data.toList.length=s.size:=rfl
      omega
     have hix:s.data.toList[k.toNat]?=some (s.data.toList[k.toNat]):=gsE hlt
     have hby:=(s.data.toList[k.toNat]).toNat_lt
     generalize s.data.toList[k.toNat]=B at hix hby
     obtain⟨gx,hgx⟩:∃gx:Int→Nat,∀r,g (bits .xor .i64 ((B.toNat:Nat):Int) r)=gx r:=⟨_,fun _=>rfl⟩
     refine zR ?_
     refine W.oneA hΓ 21 [[],[],[0,1],[],[],[3,4],[3,4,5],[],[7],[7,8],[3,4,5,6,7,8,9],[3,4,5,6,7,8,9,10],[3,4,5,6,7,8,9,10,11],[3,4,5,6,7,8,9,10,11,12],[0,1,2,3,4,5,6,7,8,9,10,11,12,13],[],[],[16],[15,16,17],[0,1,2,3,4,5,6,7,8,9,10,11,12,13,14,15,16,17,18],[0,1,2,3,4,5,6,7,8,9,10,11,12,13,14,15,16,17,18,19]] 8 hBe l1Below_s k2 hk2.ok 255 (by decide) (fun r=>vI r) (EsA:=?EsA26) (EsB:=?EsB26) (restA:=?rA26) (rest:=?rest26) (stX:=?stX26) (d:=?d26) (t0:=?t026) (xs:=?xs26) (ts:=?ts26) (ty:=?ty26) (pos:=?pos26) (after:=?after26) (m:=999) (h:=?h26) (hxp:=by decide) (hoX:=?hoX26) (hN:=?hN26) (hfA:=?hfA26) (hpA:=?hpA26) (hdA:=?hdA26) (hfrA:=?hfr26) (hneA:=?hne26) (hpk:=?hpk26) (ht:=?ht26) (hb:=?hb26) (ha:=?ha26) (hst:=?hst26) (hB:=?hB26)
     case h26=>kernel_rfl
     case hoX26=>rfl
     case hN26=>decide
     case hfA26=>
      repeat(first|refine FlowX.skA 8 (h:=?_)|refine FlowX.opA (h:=?_))
      exact FlowX.done
     case hpA26=>rfl
     case hdA26=>rfl
     case hfr26=>rfl
     case hne26=>rfl
     case hpk26=>
      simp (disch:=decide) only [pick_nil,pick_t,pick_f,List.cons_append,List.nil_append,Nat.reduceAdd]
      rfl
     case ht26=>exact evsP
     case hb26=>exact evcP
     case ha26=>
      intro st
      exact evcP
     case hst26=>
      intro c' b st
      exact evcP
     rotate_left 2
     intro c' r hto hrel
     obtain⟨hr0,hr1,-⟩:=hrel
     replace hr1:r<255:=hr1 (by decide)
     have hb1:bytesE [[Leaf.sc (.int .u8 ((gx (1+r):Nat):Int))]]=some [UInt8.ofNat (gx (1+r))]:=bytes_rows [gx (1+r)]
     have z5:(bsS [gx (1+r)]).size=1:=rfl
     have z6:=bsA (a:=s.extract 0 k.toNat) (b:=bsS [gx (1+r)])
     have z7:=bsA (a:=s.extract 0 k.toNat++bsS [gx (1+r)]) (b:=s.extract (k+1).toNat s.size)
     have hbs:(⟨([UInt8.ofNat (gx (1+r))]).toArray⟩:ByteArray)=bsS [gx (1+r)]:=rfl
     refine⟨?_,?_,?_,?_,?_,?_,?_,?_⟩
     ·repeat(first|refine FlowX.skB 8 (h:=?_)|refine FlowX.opA (h:=?_))
      exact FlowX.done
     ·rfl
     ·rfl
     ·rfl
     ·rfl
     ·rfl
     ·rfl
     ·refine WL.cast (st':=?st2) ?hst2 ?hw2
      case hst2=>
       simp only [pick_nil,pick_all,List.cons_append,List.nil_append]
       rfl
      with_reducible apply WL.nil
      refine zR ?_
      refine At.retCu (by rw [Tryz.results115]) hB (hls:=?_) (he:=?_) c' (s.extract 0 k.toNat++bsS [gx (1+r)]++s.extract (k+1).toNat s.size) (hk20.trans hto) (show(_++_:ByteArray).size≤s.size+3 by omega)
      ·rfl
      ·rfl
end
section
def subX (m:Nat)(rows:List (List Leaf))(l:PL):PL:=match l with
 |.all k=>if k=m then .sl rows else .all k
 |l=>PL.kill m l
section
variable {P:Program}{Γ:Models}{γ0:Nat→Option Nat}{w0:World}{N:Nat}{st st1:St}{a:Act}{w:World}{η:Nat→Value}{γ:Nat→Option Nat}{Q:Exit→Act→World→Prop}
theorem nm_box {n:Nat}{ls0 ls1:List PL}(hb0:getB st n=some (.box ls0)):Nm (getB st) (getB (.blk n (.box ls1)::st)) η η (fun _=>True):=by
 intro m b' _ hb
 refine⟨rfl,?_⟩
 by_cases hm:m=n
 ·subst hm
  rw [hb0]at hb
  cases hb
  exact⟨ls1,if_pos rfl⟩
 ·have hget:getB (.blk n (.box ls1)::st) m=getB st m:=if_neg (fun e=>hm e.symm)
  cases b' with
  |arr fl e s rows=>exact⟨fl,rows,by rw [hget];exact hb,rfl⟩
  |box ls=>exact⟨ls,by rw [hget];exact hb⟩
theorem R.frzX (h:R γ0 w0 N st a w){n m:Nat}{ls:List PL}{fl:Fl}{e s:Nat}{rows:List (List Leaf)}(hb:getB st n=some (.box ls))(hm:getB st m=some (.arr fl e s rows)):R γ0 w0 N (.blk n (.box (ls.map (subX m rows)))::.kill m::st) a w:=by
 obtain⟨η,γ,hI⟩:=h
 obtain⟨γ',h1,h2⟩:=hI.frz [.all m]
 have hk:∀b,γ b=none→γ' b=none:=fun b hb=>by
  cases hg:γ' b with
  |none=>rfl
  |some m=>have:=(h2 b m hg).1;rw [hb]at this;cases this
 have hne:¬m=n:=fun e=>by rw [e,hb]at hm;cases hm
 obtain⟨b,us,t,g1,g2,g3,g4⟩:=hI.blks n _ hb
 have hb1:getB (.kill m::st) n=some (.box (ls.map (PL.kill m))):=by simp only [getB,if_neg hne,hb,Option.map_some,Blk.kill]
 obtain⟨b2,us2,t2,f1,f2,f3,f4⟩:=h1.blks n _ hb1
 rw [g1]at f1
 cases f1
 rw [g3]at f3
 cases f3
 have hcell:RepPs (getB (.kill m::st)) η γ' w (ls.map (subX m rows)) us.toList:=by
  refine⟨by rw [List.length_map];exact g4.1,fun j l hj=>?_⟩
  rw [List.getElem?_map]at hj
  obtain⟨l0,hl0,rfl⟩:=oms hj
  obtain⟨u,hu1,hu2⟩:=g4.2 j l0 hl0
  obtain⟨u',hv1,hv2⟩:=f4.2 j (PL.kill m l0) (by rw [List.getElem?_map,hl0];rfl)
  rw [hu1]at hv1
  cases hv1
  refine⟨u,hu1,?_⟩
  by_cases hl:l0=.all m
  ·subst hl
   show RepP _ _ _ _ (if m=m then .sl rows else .all m) u
   rw [if_pos rfl]
   refine leafO_sound hI hk (fun b' m' hbm he=>?_) hu2 (by simp only [leafO,hm])
   have hm':m'=m:=by
    rcases he with e|⟨o,k,e⟩
    ·cases e;rfl
    ·cases e
   subst hm'
   cases hg:γ' b' with
   |none=>rfl
   |some k=>
    obtain⟨h4,h5⟩:=h2 b' k hg
    rw [hbm]at h4
    cases h4
    exact absurd rfl ((h5 _ List.mem_cons_self).1 m' rfl)
  ·have hs:subX m rows l0=PL.kill m l0:=by
    cases l0 with
    |all k=>
     have hkm:¬k=m:=fun e=>hl (by rw [e])
     show(if k=m then PL.sl rows else .all k)=PL.kill m (.all k)
     rw [if_neg hkm]
     unfold PL.kill
     rw [if_neg (by simp [PL.names,hkm])]
    |_=>rfl
   rw [hs]
   exact hv2
 exact⟨η,γ',Inv.turnD h1 n _ (ls.map (subX m rows)) hb1 b f2 w rfl rfl rfl (Nat.le_refl _) (fun _ _ _=>rfl) ⟨b,us,t,g1,f2,g3,hcell.kp (nm_box hb1) (Kp.refl w γ')⟩⟩
theorem R.nilX (h:R γ0 w0 N st a w){n m i:Nat}(e s:Nat){ls:List PL}(hm9:m≠999)(hb:getB st n=some (.box ls))(hi:ls[i]?=some .nil)(hm:getB st m=none):R γ0 w0 N (.blk n (.box (ls.set i (.all m)))::.blk m (.arr .ft e s [])::st) a w:=by
 obtain⟨η,γ,hI⟩:=h
 have h1:=hI.nilB (d:=m) .ft (fun S q e=>by cases e) e s (fun _=>hm9) hm
 have hne:¬m=n:=fun e=>by rw [e,hb]at hm;cases hm
 have hb1:getB (.blk m (.arr .ft e s [])::st) n=some (.box ls):=by simp only [getB,if_neg hne,hb]
 obtain⟨b,us,t,g1,g2,g3,g4⟩:=h1.blks n _ hb1
 have hil:i<ls.length:=(gsS hi).1
 have hcell:RepPs (getB (.blk m (.arr .ft e s [])::st)) (upd η m (.slice none 0 0)) γ w (ls.set i (.all m)) us.toList:=by
  refine⟨by rw [List.length_set];exact g4.1,fun j l hj=>?_⟩
  by_cases hij:i=j
  ·subst hij
   rw [List.getElem?_set_self hil]at hj
   cases hj
   obtain⟨u,hu1,hu2⟩:=g4.2 i _ hi
   have hu2:u=.slice none 0 0:=hu2
   exact⟨u,hu1,by rw [hu2];exact(upd_same _ _ _).symm,_,_,_,_,getB_hit _ _ _⟩
  ·rw [List.getElem?_set_ne hij]at hj
   exact g4.2 j l hj
 exact⟨_,γ,Inv.turnD h1 n _ (ls.set i (.all m)) hb1 b g2 w rfl rfl rfl (Nat.le_refl _) (fun _ _ _=>rfl) ⟨b,us,t,g1,g2,g3,hcell.kp (nm_box hb1) (Kp.refl w γ)⟩⟩
end
section
variable {γ0:Nat→Option Nat}{w0:World}{N:Nat}{st:St}{Q:Exit→Act→World→Prop}{x:Exit}{c:Code}
theorem At.frzX (n m:Nat){ls:List PL}{fl:Fl}{e s:Nat}{rows:List (List Leaf)}{st1:St}(hb:getB st n=some (.box ls):=by exact evsP)(hm:getB st m=some (.arr fl e s rows):=by exact evsP)(hst:Entry.blk n (.box (ls.map (subX m rows)))::.kill m::st=st1:=by rfl)
  (h:At γ0 w0 N st1 x Q):At γ0 w0 N st x Q:=fun a w hR=>h a w (hst▸R.frzX hR hb hm)
theorem W.nilX (n i m e s:Nat){ls:List PL}{st1:St}(hm9:m≠999:=by decide)(hb:getB st n=some (.box ls):=by exact evsP)(hi:ls[i]?=some .nil:=by rfl)(hm:getB st m=none:=by exact evsP)(hst:Entry.blk n (.box (ls.set i (.all m)))::.blk m (.arr .ft e s [])::st=st1:=by rfl)
  (h:W Tryz.prog γ0 w0 N st1 c Q):W Tryz.prog γ0 w0 N st c Q:=fun a w hR=>h a w (hst▸R.nilX hR e s hm9 hb hi hm)
theorem At.nilX (n i m e s:Nat){ls:List PL}{st1:St}(hm9:m≠999:=by decide)(hb:getB st n=some (.box ls):=by exact evsP)(hi:ls[i]?=some .nil:=by rfl)(hm:getB st m=none:=by exact evsP)(hst:Entry.blk n (.box (ls.set i (.all m)))::.blk m (.arr .ft e s [])::st=st1:=by rfl)
  (h:At γ0 w0 N st1 x Q):At γ0 w0 N st x Q:=fun a w hR=>h a w (hst▸R.nilX hR e s hm9 hb hi hm)
theorem WL.opOA {ops:Array Oper}{r:List Oper}{d f:Nat}(n:Nat){xs:List Operand}{ts:Array TypeId}{ty:TypeId}{pos:String}{after:Array Edge}{α:Type}{ok:α→Prop}{e s:Nat}{rows rows':α→List (List Leaf)}{enc res:α→List (Bool×List PL)}{st1:St}
  (hf:Has Tryz.prog f) (hs:SoundO Tryz.prog f ok e s rows enc rows' res) (x:α) (hok:ok x) (hN:d<N:=by decide) (hn9:n≠999:=by decide) (hb:getB st n=some (.arr .ft e s (rows x)):=by exact evcP) (ha:argsR st n xs=some (enc x):=by simp only [argsR];exact evcP) (hro:((res x).all fun p=>p.2.all (okO 997))=true:=by rfl)
  (hst:.slot d (.tup (resR n (res x)))::.blk n (.arr .ft e s (rows' x))::.kill n::st=st1:=by rfl) (h:WL Tryz.prog γ0 w0 N ops r st1 Q):
  WL Tryz.prog γ0 w0 N ops (⟨some d,.call ⟨.value (.func f),xs.toArray,ts⟩,ty,pos,after,none⟩::r) st Q:=WL.opO hf hs x hok hN hn9 hb ha hro (by rw [hst];exact h)
theorem At.retOA {fn:Func}{l:List ResultVar}(m:Nat){e s:Nat}{rows' rows1:List (List Leaf)}{pvs res res1:List (Bool×List PL)}(hl:fn.results.toList=l)(hγ:∀b n,γ0 b=some n→n=998∨n=997)
  (hfr:getB st 998=some (.arr (.fr (fun b=>γ0 b=some 998) (fun k=>w0.heap[k]?)) 0 1 []):=by exact evcP) (hm:getB st m=some (.arr .ft e s rows1):=by exact evcP)
  (hr:compsR Tryz.prog st l=some pvs:=by simp only [compsR,resV];exact evsP) (hlen:(pvs.length==1)=false:=by rfl) (hok:(pvs.all fun p=>p.2.all (okO m))=true:=by rfl) (hres:(pvs.map fun p=>(p.1,p.2.map (renO 997)))=res1:=by rfl) (hrows:rows1=rows') (he:res1=res):
  At γ0 w0 N st .ret (bodyPost Tryz.prog fn (PostO γ0 w0 e s rows' res)):=by
 subst hl;subst he;subst hrows
 exact At.retO hγ hfr hm hr hlen hok hres
end
section
variable {P:Program}{Γ:Models}{γ0:Nat→Option Nat}{w0:World}{N:Nat}{Q:Exit→Act→World→Prop}{l:List Oper}
def StepG (P:Program)(γ0:Nat→Option Nat)(w0:World)(N:Nat)(Q:Exit→Act→World→Prop)(l:List Oper)(J:Nat→St)(x:Nat×Nat):Prop:=
 ∃o,l[x.2]?=some o∧o.guard=none∧∀a w (K:Act→World→Prop),R γ0 w0 N (J x.1) a w→(∀a' w',R γ0 w0 N (J (x.1+2^x.2)) a' w'→K a' w')→o.wp P a w K Q
theorem StepAt.toG (hΓ:GSound P Γ){J:Nat→St}{x:Nat×Nat}(h:StepAt P Γ N l J x):StepG P γ0 w0 N Q l J x:=by
 obtain⟨o,st',e1,e2,e3,e4⟩:=h
 exact⟨o,e1,e2,fun a w K hR hK=>stepO_sound hΓ hR e3 fun a' w' hR'=>hK a' w' (hR'.sub e4)⟩
theorem draw_allG (hD:dirB l=true)(J:Nat→St)(hS:∀x∈prs l,StepG P γ0 w0 N Q l J x)(hT:WL P γ0 w0 N l.toArray [] (J (2^l.length-1)) Q):
  ∀(fuel:Nat) (listed:Array Bool) (a:Act) (w:World),listed.size=l.length→Closed l listed→(List.range l.length).countP (fun i=>!L listed i)≤fuel→R γ0 w0 N (J (msk listed)) a w→wpAny P .any l.toArray Q fuel listed a w:=by
 have hfull:∀listed:Array Bool,listed.size=l.length→(∀i,i<l.length→L listed i=true)→msk listed=2^l.length-1:=fun listed hs hall=>by
  refine Nat.eq_of_testBit_eq fun i=>?_
  rw [msk_bit,Nat.testBit_two_pow_sub_one]
  by_cases hi:i<l.length
  ·rw [hall i hi];simp [hi]
  ·have:L listed i=false:=by
    unfold L
    simp [Array.getD_eq_getD_getElem?,Array.getElem?_eq_none (show listed.size≤i by omega)]
   rw [this];simp [hi]
 have hend:∀(listed:Array Bool) (a:Act) (w:World),listed.size=l.length→(∀i,i<l.length→L listed i=true)→R γ0 w0 N (J (msk listed)) a w→Q .normal a w:=fun listed a w hs hall hR=>hT a w (by rw [←hfull listed hs hall];exact hR)
 have hnone:∀listed:Array Bool,listed.size=l.length→(∀i,i<l.length→L listed i=true)→∀i,i∉Region.ready .any l.toArray listed:=fun listed hs hall i hi=>by
  obtain⟨o,h1,h2,_⟩:=ready_spec hs hi
  rw [hall i (gsS h1).1]at h2
  cases h2
 have hready:∀listed:Array Bool,listed.size=l.length→Region.ready .any l.toArray listed=[]→∀i,i<l.length→L listed i=true:=fun listed hs hr i=>by
  induction i using Nat.strongRecOn with
  |_ i ih=>
   intro hi
   cases hL:L listed i with
   |true=>rfl
   |false=>
    have hok:l[i]?=some l[i]:=gsE hi
    have:=ready_of hs hok hL (fun k hk=>by
     have h1:=List.all_eq_true.1 hD i (List.mem_range.2 hi)
     rw [hok]at h1
     have h2:=of_decide_eq_true (List.all_eq_true.1 h1 k hk)
     exact ih k h2 (by omega))
    rw [hr]at this
    cases this
 intro fuel
 induction fuel with
 |zero=>
  intro listed a w hs hc hcnt hR
  have hall:∀i,i<l.length→L listed i=true:=fun i hi=>by
   have:=List.countP_eq_zero.1 (Nat.le_zero.1 hcnt) i (List.mem_range.2 hi)
   simpa using this
  exact⟨List.eq_nil_iff_forall_not_mem.2 (hnone listed hs hall),hend listed a w hs hall hR⟩
 |succ fuel ih=>
  intro listed a w hs hc hcnt hR
  refine⟨fun hr=>hend listed a w hs (hready listed hs hr) hR,fun i hi=>?_⟩
  obtain⟨o,h1,h2,h3⟩:=ready_spec hs hi
  have hlt:=(gsS h1).1
  obtain⟨o',e1,e2,e3⟩:=hS _ (prs_mem hs hc h1 h2 h3)
  dsimp only at e1 e3
  rw [h1]at e1
  cases e1
  have hset:∀j,L (listed.setIfInBounds i true) j=if i=j then true else L listed j:=L_set (by omega)
  have hcl:Closed l (listed.setIfInBounds i true):=fun j o' hj hL k hk=>by
   rw [hset]at hL⊢
   by_cases e:i=j
   ·subst e
    rw [h1]at hj
    cases hj
    split
    ·rfl
    ·exact h3 k hk
   ·rw [if_neg e]at hL
    split
    ·rfl
    ·exact hc j o' hj hL k hk
  have hct:(List.range l.length).countP (fun j=>!L (listed.setIfInBounds i true) j)≤fuel:=by
   have:=count_set (fun j=>!L listed j) (fun j=>!L (listed.setIfInBounds i true) j) i (by simp [h2]) (by simp [hset]) (fun j hj=>by simp only [hset,if_neg (fun e:i=j=>hj e.symm)]) (List.range l.length) List.nodup_range (List.mem_range.2 hlt)
   omega
  have hsz:(listed.setIfInBounds i true).size=l.length:=by simpa using hs
  unfold wpOp
  have hget:l.toArray[i]?=some o:=by simpa using h1
  rw [hget]
  simp only
  rw [if_pos (by simp [Region.wanted,e2])]
  left
  exact e3 a w _ hR fun a' w' hR'=>ih _ a' w' hsz hcl hct (by rw [msk_set (by omega) h2];exact hR')
theorem W.allG (hm:P.follows .mixedOrders=true){id:Nat}{st0:St}(J:Nat→St)(h0:J 0=st0)(hD:dirB l=true)(hS:∀x∈prs l,StepG P γ0 w0 N Q l J x)(hT:WL P γ0 w0 N l.toArray [] (J (2^l.length-1)) Q):
  W P γ0 w0 N st0 (.region id l.toArray true) Q:=fun a w hR=>by
 refine wp_region_any hm ?_
 obtain⟨η,γ,hI⟩:=hR
 have hR':R γ0 w0 N st0 a w.drew:=⟨η,γ,hI.world w.drew rfl rfl rfl rfl⟩
 have hL0:∀i,L (Array.replicate l.toArray.size false) i=false:=fun i=>by
  unfold L
  simp only [Array.getD_eq_getD_getElem?,Array.getElem?_replicate]
  split<;>rfl
 have hm0:msk (Array.replicate l.toArray.size false)=0:=Nat.eq_of_testBit_eq fun i=>by rw [msk_bit,hL0];simp
 refine draw_allG hD J hS hT _ _ a w.drew (by simp) (fun i o _ hL=>by rw [hL0]at hL;cases hL) ?_ (by rw [hm0,h0];exact hR')
 refine Nat.le_trans List.countP_le_length ?_
 simp
end
section
variable {Γ:Models}{γ0:Nat→Option Nat}{w0:World}{N:Nat}{Q:Exit→Act→World→Prop}{l:List Oper}{id:Nat}{st0:St}{tab:List (Nat×St)}
theorem AllGo.addO {tab':List (Nat×St)}{stm st1 st2:St}(m i d n:Nat)(pv:PV)(b:Blk)(hm:tabJ tab m=stm:=by simp only [tabJ,eq_self,Nat.reduceEqDiff,reduceIte]<;>rfl)(hs:.slot d pv::.blk n b::.kill n::stm=st1:=by rfl)
  (hc:cleanG st1 st1=st2:=by simp only [cleanG];simp (config := { maxSteps := 1000000 }) (disch:=first|assumption|omega) only [TY,ar_u64,binE,eqCells,eqVal,eqOp,step_mk,makeE,List.toList_toArray,Value.oneCell',step_fnv,step_makeFunc,ev_func,callV,cells_agg,cells_int,cells_bool,cells_str,cells_sl,List.size_toArray,flatB_nil,flatB_cons,wid_nil,wid_cons,rowsF_len,rowsF_flat,rowsF_app,step_build,buildE,fillE,indexSlE,indexArrE,shiftE,indexArrV,indexStE,step_move,step_assign,step_pick,step_load,step_nilCheck,step_binOp,step_unOp,step_convert,step_slice,step_fieldAddr,step_field,step_indexAddr,step_index,step_extract,step_len,step_min,step_max,step_alloc,step_box,step_lit,step_app,step_fn,step_store,putV_some,getS_hit,getS_miss,getS_blk,getS_kill,getS_nil,getB_nil,getB_slot,getB_hit,getB_miss,getB_kill0,getB_kill1,ev_tmp,ev_int,ev_bool,ev_str,ev_nil,ev_agg,cl_int,cl_bool,cl_str,cl_nil,loadE,loadV,fieldAddrE,fieldE,partV,indexAddrE,lenE,lenO,strIdx,indexE,boundE,subE,sliceE,convE,minE,scal,nilE,tupE,capsE,optE,pickE,pbin,pint,pstr,pun,ar_in,ar_u32,ar_u8,allocE,boxE,litE,rowsO,leafO,leafsO,frz,clr,rowsOf,flB,Fl.and,Fl.nst,Fl.ok,Fl.isFl,noRef,nstOk,flatAt,hasAll,absL,appN,Fl.isNd,asN,storeN,Nat.reduceBNe,destOf,appE,storeE,argO,argsO,boxesO,callG,callE,impE,pvR,pvs,pvRL,pvT,owns,ownsT,ownsR,clrL,withB,PV.kill,PL.kill,PL.names,Blk.kill,PL.live,toPL,resV,resO,compsO,compO,rlsO,rlO,toRes,Leaf.isSc,List.map_cons,List.map_nil,List.all_cons,List.all_nil,List.length_cons,List.length_nil,List.drop_zero,List.drop_succ_cons,List.take_succ_cons,List.take_zero,List.drop_nil,List.take_nil,List.getElem?_cons_zero,List.getElem?_cons_succ,List.getElem?_nil,Option.map_some,Option.map_none,Option.bind_some,Option.isSome_some,Option.isSome_none,List.cons_append,List.nil_append,List.append_nil,if_true,if_false,reduceIte,Nat.reduceLT,Nat.reduceBEq,Nat.reduceLeDiff,Nat.reduceEqDiff,Nat.reduceAdd,Nat.reduceMul,Nat.zero_add,Nat.add_zero,Nat.mul_one,Int.reduceToNat,Bool.and_true,Bool.true_and,Bool.false_and,Bool.and_false,Bool.not_true,Bool.not_false,Bool.false_eq_true,decide_true,decide_false,and_self,and_true,true_and,or_true,true_or,or_false,false_or,if_pos,if_neg,Int.toNat_natCast,decide_eq_true,decide_eq_false,look_hit,look_miss,Int.ofNat_eq_natCast,Bool.or_false,Bool.or_true,Bool.true_or,Bool.false_or,Bool.not_eq_true,beq_self_eq_true,ne_eq,not_false_eq_true,not_true_eq_false,eq_self, *];(try simp only [putB]);rfl) (ht:tab++[(m+2^i,st2)]=tab':=by simp only [List.cons_append,List.nil_append,Nat.reduceAdd,Nat.reducePow];rfl) (h:AllGo Γ γ0 w0 N l id st0 Q tab'):AllGo Γ γ0 w0 N l id st0 Q tab:=h
theorem AllGo.doneG {stE:St}(ps:List (Nat×Nat))(hp:prs l=ps)(hD:dirB l=true)(h0:tabJ tab 0=st0)(hS:∀x∈ps,StepG Tryz.prog γ0 w0 N Q l (tabJ tab) x)(hE:tabJ tab (2^l.length-1)=stE)(hT:WL Tryz.prog γ0 w0 N l.toArray [] stE Q):AllGo Γ γ0 w0 N l id st0 Q tab:=by
 subst hE
 exact W.allG follows_mixed (tabJ tab) h0 hD (fun x hx=>hS x (hp▸hx)) hT
theorem StepG.opO {J:Nat→St}{m i:Nat}{stm stn st1:St}{d f n:Nat}{xs:List Operand}{ts:Array TypeId}{ty:TypeId}{pos:String}{after:Array Edge}{α:Type}{ok:α→Prop}{e s:Nat}{rows rows':α→List (List Leaf)}{enc res:α→List (Bool×List PL)}
  (hf:Has Tryz.prog f) (hs:SoundO Tryz.prog f ok e s rows enc rows' res) (x:α) (hok:ok x) (ho:l[i]?=some ⟨some d,.call ⟨.value (.func f),xs.toArray,ts⟩,ty,pos,after,none⟩) (hm:J m=stm) (hn:J (m+2^i)=stn) (hN:d<N) (hn9:n≠999) (hb:getB stm n=some (.arr .ft e s (rows x))) (ha:argsR stm n xs=some (enc x)) (hro:((res x).all fun p=>p.2.all (okO 997))=true)
  (hst:.slot d (.tup (resR n (res x)))::.blk n (.arr .ft e s (rows' x))::.kill n::stm=st1) (hsub:Sub stn st1):StepG Tryz.prog γ0 w0 N Q l J (m,i):=
 ⟨_,ho,rfl,fun a w K hR hK=>by
  subst hst
  exact opO_wp hf hs x hok hN hn9 hb ha hro (fun a' w' hR'=>hK a' w' (by rw [hn];exact hR'.sub hsub)) (by rw [←hm];exact hR)⟩
end
end
section
def nilS:PL→PL
 |.nil=>.sl []
 |l=>l
section
variable {γ0:Nat→Option Nat}{w0:World}{N:Nat}{st:St}{a:Act}{w:World}
theorem R.slX (h:R γ0 w0 N st a w){n:Nat}{ls:List PL}(hb:getB st n=some (.box ls)):R γ0 w0 N (.blk n (.box (ls.map nilS))::st) a w:=by
 obtain⟨η,γ,hI⟩:=h
 obtain⟨b,us,t,g1,g2,g3,g4⟩:=hI.blks n _ hb
 have hcell:RepPs (getB st) η γ w (ls.map nilS) us.toList:=by
  refine⟨by rw [List.length_map];exact g4.1,fun j l hj=>?_⟩
  rw [List.getElem?_map]at hj
  obtain⟨l0,hl0,rfl⟩:=oms hj
  obtain⟨u,hu1,hu2⟩:=g4.2 j l0 hl0
  refine⟨u,hu1,?_⟩
  cases l0 with
  |nil=>
   have hu2:u=.slice none 0 0:=hu2
   subst hu2
   exact .emp (Nat.zero_le _)
  |_=>exact hu2
 exact⟨η,γ,Inv.turnD hI n _ (ls.map nilS) hb b g2 w rfl rfl rfl (Nat.le_refl _) (fun _ _ _=>rfl) ⟨b,us,t,g1,g2,g3,hcell.kp (nm_box hb) (Kp.refl w γ)⟩⟩
end
section
variable {γ0:Nat→Option Nat}{w0:World}{N:Nat}{st:St}{Q:Exit→Act→World→Prop}{x:Exit}{c:Code}
theorem W.slX (n:Nat){ls:List PL}{st1:St}(hb:getB st n=some (.box ls):=by exact evsP)(hst:Entry.blk n (.box (ls.map nilS))::st=st1:=by rfl)(h:W Tryz.prog γ0 w0 N st1 c Q):W Tryz.prog γ0 w0 N st c Q:=fun a w hR=>h a w (hst▸R.slX hR hb)
theorem At.slX (n:Nat){ls:List PL}{st1:St}(hb:getB st n=some (.box ls):=by exact evsP)(hst:Entry.blk n (.box (ls.map nilS))::st=st1:=by rfl)(h:At γ0 w0 N st1 x Q):At γ0 w0 N st x Q:=fun a w hR=>h a w (hst▸R.slX hR hb)
end
end
end Go.Proofs.YtfgkfcfplodaoaaGreatDoor
