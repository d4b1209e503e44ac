/-
  Put together out of 2 texts.
-/
import Derived.Test.YtfgkfcfplodaoaaGreatDoorG21
set_option linter.unusedSimpArgs false
set_option linter.unusedVariables false
set_option maxRecDepth 100000
namespace Go.Proofs.YtfgkfcfplodaoaaGreatDoor
open Go Go.RowKit
section
abbrev oldF (w:World)(k:Nat):Prop:=k<w.heap.size∧globs k=none
open Classical in
noncomputable def ownA (w:World):Nat→Option Nat:=fun k=>if oldF w k then some 998 else none
theorem ownA_fr {w:World}{k:Nat}(h:oldF w k):ownA w k=some 998:=if_pos h
theorem ownA_no {w:World}{k:Nat}(h:¬oldF w k):ownA w k=none:=if_neg h
theorem ownA_some {w:World}{k n:Nat}(h:ownA w k=some n):oldF w k∧n=998:=by
 unfold ownA at h
 split at h
 ·rename_i e
  cases h
  exact⟨e,rfl⟩
 ·cases h
def PostM (w:World)(r:Res)(e:Ending)(w':World):Prop:=
 ∃u γ hdr,e=.returned u∧Below w.heap.size w w'∧(∀b,oldF w b→γ b≠none)∧(∀b k,w.heap.size≤b→γ b=some k→b<w'.heap.size∧AtR r hdr b k)∧RepR w.heap.size w' γ hdr r u
def SoundM (P:Program)(f:FuncId)(m:List Arg→Option Res):Prop:=
 ∀args r vs w,GlobOk none0 w→m args=some r→RepAs w args vs→Calls P f vs.toArray w (PostM w r)
def scL:Leaf→Bool
 |.sc _=>true
 |_=>false
def scA:Arg→Bool
 |.val _ ls=>ls.all scL
 |_=>false
theorem scL_any {w:World}{γ:Nat→Option Nat}{l:Leaf}{u:Value}(hs:scL l=true)(h:RepL w none0 l u):RepL w γ l u:=by
 cases h with
 |sc h=>exact .sc h
 |_=>simp [scL]at hs
theorem scLs_any {w:World}{γ:Nat→Option Nat}{ls:List Leaf}{us:List Value}(hs:ls.all scL=true)(h:RepLs w none0 ls us):RepLs w γ ls us:=
 ⟨h.1,fun j l hj=>by
  obtain⟨u,h1,h2⟩:=h.2 j l hj
  exact⟨u,h1,scL_any (List.all_eq_true.1 hs _ (List.mem_of_getElem? hj)) h2⟩⟩
theorem scA_any {w:World}{γ:Nat→Option Nat}{x:Arg}{u:Value}(hs:scA x=true)(h:RepA w x u):RepD w γ x u:=by
 cases x with
 |val g ls=>
  cases g with
  |true=>
   obtain⟨us,rfl,h1⟩:=h
   exact⟨us,rfl,scLs_any hs h1⟩
  |false=>
   obtain⟨l,rfl,h1⟩:=h
   exact⟨l,rfl,scL_any (by simpa [scA]using hs) h1⟩
 |row _ _=>cases hs
 |clo _ _=>cases hs
section
variable {P:Program}{Γ:Models}{γ0:Nat→Option Nat}{w0:World}{N:Nat}{st st1:St}{a:Act}{w:World}{η:Nat→Value}{γ:Nat→Option Nat}{Q:Exit→Act→World→Prop}
theorem SoundM.of {f:FuncId}{fn:Func}{c:Code}{m:List Arg→Option Res}
  (hf:P.funcs[f]?=some fn) (hb:fn.body=some c) (hN:fn.ntmps=N)
  (h:∀args r w,m args=some r→args.all scA=true∧args.length≤N∧W P (ownA w) w N (frE (oldF w) w::initS 0 args) c (bodyPost P fn (PostM w r))):SoundM P f m:=by
 intro args r vs w hgl hm hargs
 obtain⟨hsc,hl,hW⟩:=h args r w hm
 refine calls_of_wp hf hb (hW _ _ ⟨fun _=>.slice none 0 0,ownA w,?_⟩)
 have hsz:vs.length=args.length:=hargs.1
 refine {slots:=fun k=>?_,blks:=fun n b' hb'=>?_,live:=fun k n hk=>?_,low:=fun k _ hk=>⟨hk,rfl⟩,os:=rfl,tape:=rfl,output:=rfl,size:=Nat.le_refl _,defers:=rfl,width:=?_,glob:=fun g cs hg=>?_,pin:=fun _ k ls hk hbx=>?_,pinA:=PinA.no fun _ fl e s rows hb=>?_}
 ·show RepV _ _ _ _ (getS (initS 0 args) k) _
  refine initS_data args 0 (fun t=>(vs.toArray++Array.replicate (fn.ntmps-vs.toArray.size) undef).getD t undef) (fun j y hj=>?_) k
  obtain⟨v,k1,k2⟩:=hargs.2 j y hj
  have hlt:j<vs.length:=(gsS k1).1
  have:(vs.toArray++Array.replicate (fn.ntmps-vs.toArray.size) undef).getD (0+j) undef=v:=by
   rw [Array.getD_eq_getD_getElem?,Array.getElem?_append_left (by simp;omega)]
   simp [k1]
  rw [this]
  exact scA_any (List.all_eq_true.1 hsc _ (List.mem_of_getElem? hj)) k2
 ·simp only [frE,getB]at hb'
  split at hb'
  ·rename_i e
   cases hb'
   subst e
   refine⟨[],⟨rfl,.inl ⟨by simp,rfl⟩⟩,⟨rfl,fun j x hj=>by simp at hj⟩,fun row hr=>by simp at hr,fun k hk=>by simp [Value.ownBlock]at hk,fun e=>(by cases e),fun e=>(by cases e),fun S h e=>?_⟩
   injection e with e1 e2
   subst e1;subst e2
   exact⟨by simp [Value.ownBlock],fun k hk=>⟨ownA_fr hk,rfl⟩⟩
  ·rw [initS_blk]at hb'
   cases hb'
 ·obtain⟨h3,rfl⟩:=ownA_some hk
  exact⟨h3.1,.inr (by simp [getB,nstB,Fl.nst]),by simp [getB]⟩
 ·simp
  omega
 ·obtain⟨k1,k2,k3⟩:=hgl g cs hg
  exact⟨ownA_no fun e=>(by have e2:=e.2;rw [hg]at e2;cases e2),k2,k3⟩
 ·simp only [frE,getB]at hbx
  rw [if_neg (by decide),initS_blk]at hbx
  cases hbx
 ·simp only [frE,getB]at hb
  rw [if_neg (by decide),initS_blk]at hb
  cases hb
theorem At.retM {fn:Func}{r:Res}
  (hfr:getB st 998=some (.arr (.fr (oldF w0) (fun k=>w0.heap[k]?)) 0 1 [])) (hr:resN P st fn.results.toList=some r) (hL:apart (ownC P st 0 fn.results.toList)=true) (hL9:((ownC P st 0 fn.results.toList).all fun p=>p.2 !=998)=true):
  At (ownA w0) w0 N st .ret (bodyPost P fn (PostM w0 r)):=by
 classical
 intro a w ⟨η,γ,h⟩
 obtain⟨xs,-,-,-,-,hfl⟩:=h.blks 998 _ hfr
 obtain⟨-,hfo⟩:=hfl.2.2 _ _ rfl
 generalize hLd:ownC P st 0 fn.results.toList=L at hL hL9
 have hn9:∀i n,(i,n)∈L→n≠998:=fun i n hm=>by
  have:=List.all_eq_true.1 hL9 _ hm
  simpa using this
 have hge:∀k n,γ k=some n→n≠998→w0.heap.size≤k∧¬oldF w0 k:=fun k n hk hn=>by
  have hkf:¬oldF w0 k:=fun e=>by rw [(hfo k e).1]at hk;injection hk with hk;exact hn hk.symm
  refine⟨Nat.le_of_not_lt fun hlt=>?_,hkf⟩
  have:=(h.low k hlt (ownA_no hkf)).1
  rw [hk]at this
  cases this
 obtain⟨u,h1,h2⟩:=retN_core h hr hLd hL (B:=w0.heap.size) (γr:=fun k=>if oldF w0 k then some 999999 else γoutN γ L k) (fun k hk=>by
   have hkb:¬oldF w0 k:=fun e=>by rw [(hfo k e).1]at hk;cases hk
   simp only [if_neg hkb,γoutN,hk]) (fun i n hm k hk=>by
   obtain⟨h3,h4⟩:=hge k n hk (hn9 i n hm)
   exact⟨h3,by simp only [if_neg h4,γoutN,hk,(find_own hL hm).1,Option.map_some]⟩)
 refine⟨h.defers,u,h1,u,fun k=>if oldF w0 k then some 999999 else γoutN γ L k,hout η L,rfl,⟨h.os,h.tape,h.output,h.size,fun k hk=>?_⟩,fun k hk=>by simp only [if_pos hk];simp,fun k i hkb hk=>?_,h2⟩
 ·by_cases ef:oldF w0 k
  ·exact(hfo k ef).2
  ·exact(h.low k hk (ownA_no ef)).2
 ·have hkk:¬oldF w0 k:=fun e=>absurd e.1 (by omega)
  simp only [if_neg hkk,γoutN]at hk
  cases hg:γ k with
  |none=>simp [hg]at hk
  |some n=>
   simp only [hg]at hk
   obtain⟨p,hp,rfl⟩:=oms hk
   have h3:=List.find?_some hp
   have h4:=List.mem_of_find?_eq_some hp
   obtain⟨i,m⟩:=p
   simp only [beq_iff_eq]at h3
   subst h3
   obtain⟨q1,q2,_⟩:=h.live k m hg
   refine⟨q1,q2.imp (fun q2=>?_) (fun q2 fl e s rows hat=>?_)⟩
   ·simp only [hout,(find_own hL h4).2]
    exact q2
   ·obtain⟨vs,hvs,hrv⟩:=oms hr
    rw [←hrv]at hat
    obtain⟨m',h5,h6⟩:=compsN_at hvs 0 hat
    have h7:m'=m:=(apart_spec hL (by rw [←hLd];simpa using h5) h4).2 rfl
    subst h7
    rw [h6]at q2
    exact q2
theorem WL.opM {ops:Array Oper}{r:List Oper}{d f:Nat}{xs:List Operand}{ts:Array TypeId}{ty:TypeId}{pos:String}{after:Array Edge}{m:List Arg→Option Res}{args:List Arg}{res:Res}
  (hf:Has P f) (hs:SoundM P f m) (hN:d<N) (ha:argsO st xs=some args) (hm:m args=some res) (h:WL P γ0 w0 N ops r (impE st d res) Q):
  WL P γ0 w0 N ops (⟨some d,.call ⟨.value (.func f),xs.toArray,ts⟩,ty,pos,after,none⟩::r) st Q:=fun a w hR=>by
 refine wpList_plain rfl fun K hK=>?_
 obtain⟨η,γ,hI⟩:=hR
 have hcall:=hs args res _ w hI.globw hm (argsO_sound hI ha)
 have hrun:=enter_of (P:=P) hf (a:=a) (w:=w) (args:=xs) (ts:=ts) (dst:=some d) (ty:=ty) (pos:=pos) (after:=after) (g:=none)
 unfold Oper.wp
 rw [hrun]
 show Calls P f (xs.map a.eval).toArray w _
 refine hcall.mono fun e w' ⟨u,γr,hdr,he,hk,ho,hnew,hr⟩=>?_
 subst he
 refine hK _ _ (h _ _ (impE_soundH hI hN hk (fun b hb hg=>?_) hnew hr))
 cases hgl:globs b with
 |none=>exact absurd hg (ho b ⟨hb,hgl⟩)
 |some cs=>
  obtain⟨m1,m2,_⟩:=hI.glob b cs hgl
  exact(hI.low b m2 m1).1
end
section
variable {γ0:Nat→Option Nat}{w0:World}{N:Nat}{st:St}{Q:Exit→Act→World→Prop}
theorem SoundM.mdl {f:FuncId}{fn:Func}{c:Code}{α:Type}{ok:α→Prop}{enc:α→List Arg}{g:α→Res}
  (hf:(Tryz.prog).funcs[f]?=some fn) (hb:fn.body=some c) (hN:fn.ntmps=N)
  (h:∀x w,ok x→(enc x).all scA=true∧(enc x).length≤N∧W Tryz.prog (ownA w) w N (frE (oldF w) w::initS 0 (enc x)) c (bodyPost Tryz.prog fn (PostM w (g x)))):SoundM Tryz.prog f (Go.Proofs.YtfgkfcfplodaoaaGreatDoor.mdl ok enc g):=
 SoundM.of hf hb hN fun args r w hm=>by
  unfold Go.Proofs.YtfgkfcfplodaoaaGreatDoor.mdl at hm
  split at hm
  ·rename_i he
   cases hm
   obtain⟨h1,h2⟩:=he.choose_spec
   have:=h _ w h1
   rw [h2]at this
   exact this
  ·cases hm
theorem At.retMA {fn:Func}{r r':Res}{l:List ResultVar}(hl:fn.results.toList=l)
  (hfr:getB st 998=some (.arr (.fr (oldF w0) (fun k=>w0.heap[k]?)) 0 1 []):=by exact evcP) (hr:resN Tryz.prog st l=some r':=by simp only [resN,compsN,compN,rlsN,rlN,resV];exact evsP) (hL:apart (ownC Tryz.prog st 0 l)=true:=by simp only [ownC,resV];exact evsP) (hL9:((ownC Tryz.prog st 0 l).all fun p=>p.2 !=998)=true:=by simp only [ownC,resV];exact evsP) (he:r'=r):
  At (ownA w0) w0 N st .ret (bodyPost Tryz.prog fn (PostM w0 r)):=by
 subst hl;subst he
 exact At.retM hfr hr hL hL9
theorem WL.opMA {ops:Array Oper}{r:List Oper}{d f:Nat}{xs:List Operand}{ts:Array TypeId}{ty:TypeId}{pos:String}{after:Array Edge}{m:List Arg→Option Res}{args:List Arg}{res:Res}{st1:St}
  (hf:Has Tryz.prog f) (hs:SoundM Tryz.prog f m) (hm:m args=some res) (hN:d<N:=by decide) (ha:argsO st xs=some args:=by exact evsP) (hst:impE st d res=st1:=by exact evsP) (h:WL Tryz.prog γ0 w0 N ops r st1 Q):
  WL Tryz.prog γ0 w0 N ops (⟨some d,.call ⟨.value (.func f),xs.toArray,ts⟩,ty,pos,after,none⟩::r) st Q:=WL.opM hf hs hN ha hm (by rw [hst];exact h)
end
end
section
def okO (n:Nat):PL→Bool
 |.sc _=>true
 |.nil=>true
 |.sl _=>true
 |.all m=>m==n
 |_=>false
def renO (m:Nat):PL→PL
 |.all _=>.all m
 |l=>l
section
variable {hb hb':Nat→Option Blk}{η η':Nat→Value}{γ γ':Nat→Option Nat}{w w':World}
theorem RepP.renO {n m:Nat}{l:PL}{u:Value}(hl:okO n l=true)(hη:η' m=η n)(hm:∃fl e s rows,hb' m=some (.arr fl e s rows))(hk:Kp w w' γ γ')(h:RepP hb η γ w l u):RepP hb' η' γ' w' (Go.Proofs.YtfgkfcfplodaoaaGreatDoor.renO m l) u:=by
 cases l with
 |sc v=>exact h
 |nil=>exact h
 |sl rows=>exact RepL.kp hk h
 |all k=>
  have hk':k=n:=by simpa [okO]using hl
  subst hk'
  obtain⟨h1,_⟩:=h
  exact⟨h1.trans hη.symm,hm⟩
 |_=>cases hl
theorem RepC.renO {n m:Nat}{g:Bool}{ls:List PL}{u:Value}(hl:ls.all (okO n)=true)(hη:η' m=η n)(hm:∃fl e s rows,hb' m=some (.arr fl e s rows))(hk:Kp w w' γ γ')(h:RepC hb η γ w g ls u):RepC hb' η' γ' w' g (ls.map (Go.Proofs.YtfgkfcfplodaoaaGreatDoor.renO m)) u:=by
 have hl':∀l∈ls,okO n l=true:=fun l hm=>List.all_eq_true.1 hl l hm
 cases g with
 |true=>
  obtain⟨us,h1,h2,h3⟩:=h
  refine⟨us,h1,by rw [List.length_map];exact h2,fun j l hj=>?_⟩
  rw [List.getElem?_map]at hj
  obtain⟨l0,h4,rfl⟩:=oms hj
  obtain⟨v,h5,h6⟩:=h3 j l0 h4
  exact⟨v,h5,h6.renO (hl' _ (List.mem_of_getElem? h4)) hη hm hk⟩
 |false=>
  obtain⟨l,rfl,h1⟩:=h
  exact⟨_,rfl,h1.renO (hl' _ List.mem_cons_self) hη hm hk⟩
end
def hb7 (e s:Nat)(rows:List (List Leaf)):Nat→Option Blk:=fun m=>if m=997 then some (.arr .ft e s rows)else none
def PostO (γ0:Nat→Option Nat)(w:World)(e s:Nat)(rows:List (List Leaf))(res:List (Bool×List PL))(en:Ending)(w':World):Prop:=
 ∃(us:List Value) (η:Nat→Value) (γ:Nat→Option Nat),en=.returned (.tuple us.toArray)∧(w'.os=w.os∧w'.tape=w.tape∧w'.output=w.output∧w.heap.size≤w'.heap.size)∧(∀b,b<w.heap.size→γ0 b≠some 997→w'.heap[b]?=w.heap[b]?)∧(∀b,γ0 b=some 998→γ b≠none)∧
  RepB (hb7 e s rows) η γ w' 997 (.arr .ft e s rows)∧(∀b,(η 997).ownBlock=some b→γ0 b=some 997∨w.heap.size≤b)∧us.length=res.length∧∀(j:Nat) (g:Bool) (ls:List PL),res[j]?=some (g,ls)→∃v,us[j]?=some v∧RepC (hb7 e s rows) η γ w' g ls v
def SoundO (P:Program)(f:FuncId){α:Type}(ok:α→Prop)(e s:Nat)(rows:α→List (List Leaf))(enc:α→List (Bool×List PL))(rows':α→List (List Leaf))(res:α→List (Bool×List PL)):Prop:=
 ∀(x:α) (η:Nat→Value) (γ0:Nat→Option Nat) (vs:List Value) (w:World),ok x→GlobOk γ0 w→(∀b n,γ0 b=some n→b<w.heap.size∧(n=998∨(n=997∧hdrBlock (η 997)=some b)))→RepB (hb7 e s (rows x)) η γ0 w 997 (.arr .ft e s (rows x))→
  vs.length=(enc x).length→(∀(j:Nat) (g:Bool) (ls:List PL),(enc x)[j]?=some (g,ls)→∃v,vs[j]?=some v∧RepC (hb7 e s (rows x)) η γ0 w g ls v)→Calls P f vs.toArray w (PostO γ0 w e s (rows' x) (res x))
def initO:Nat→List (Bool×List PL)→St
 |_,[]=>[]
 |i,x::r=>.slot i (.comp x.1 x.2)::initO (i+1) r
theorem initO_blk:∀(xs:List (Bool×List PL)) (i n:Nat),getB (initO i xs) n=none
 |[],i,n=>rfl
 |x::r,i,n=>initO_blk r (i+1) n
theorem initO_get {hb:Nat→Option Blk}{η:Nat→Value}{γ:Nat→Option Nat}{w:World}:∀(xs:List (Bool×List PL)) (i:Nat) (f:Nat→Value) (_:∀(j:Nat) (g:Bool) (ls:List PL),xs[j]?=some (g,ls)→RepC hb η γ w g ls (f (i+j))) (t:Nat),RepV hb η γ w (getS (initO i xs) t) (f t)
 |[],i,f,h,t=>RepV.one_iff.2 trivial
 |x::r,i,f,h,t=>by
  show RepV hb η γ w (if i=t then .comp x.1 x.2 else getS (initO (i+1) r) t) (f t)
  by_cases e:i=t
  ·subst e
   rw [if_pos rfl]
   exact h 0 x.1 x.2 rfl
  ·rw [if_neg e]
   exact initO_get r (i+1) f (fun j g ls hj=>by
    have:=h (j+1) g ls (by simpa using hj)
    rw [show i+1+j=i+(j+1)by omega]
    exact this) t
section
variable {P:Program}{Γ:Models}{γ0:Nat→Option Nat}{w0:World}{N:Nat}{st st1:St}{a:Act}{w:World}{η:Nat→Value}{γ:Nat→Option Nat}{Q:Exit→Act→World→Prop}
theorem SoundO.of {f:FuncId}{fn:Func}{c:Code}{α:Type}{ok:α→Prop}{e s:Nat}{rows rows':α→List (List Leaf)}{enc res:α→List (Bool×List PL)}
  (hf:P.funcs[f]?=some fn) (hb:fn.body=some c) (hN:fn.ntmps=N)
  (h:∀x γ0 w,ok x→(∀b n,γ0 b=some n→n=998∨n=997)→(enc x).length≤N∧
   W P γ0 w N (frE (fun b=>γ0 b=some 998) w::.blk 997 (.arr .ft e s (rows x))::initO 0 (enc x)) c (bodyPost P fn (PostO γ0 w e s (rows' x) (res x)))):SoundO P f ok e s rows enc rows' res:=by
 intro x η γ0 vs w hok hgl hγ hrow hlen hargs
 obtain⟨hl,hW⟩:=h x γ0 w hok (fun b n hb=>(hγ b n hb).2.imp id And.left)
 have hget:∀m,getB (frE (fun b=>γ0 b=some 998) w::.blk 997 (.arr .ft e s (rows x))::initO 0 (enc x)) m=if 998=m then some (.arr (.fr (fun b=>γ0 b=some 998) (fun k=>w.heap[k]?)) 0 1 [])else if 997=m then some (.arr .ft e s (rows x))else none:=fun m=>by
  simp only [frE,getB,initO_blk]
 refine calls_of_wp hf hb (hW _ _ ⟨fun m=>if m=998 then .slice none 0 0 else η m,γ0,?_⟩)
 refine {slots:=fun k=>?_,blks:=fun n b' hb'=>?_,live:=fun k n hk=>?_,low:=fun k _ hk=>⟨hk,rfl⟩,os:=rfl,tape:=rfl,output:=rfl,size:=Nat.le_refl _,defers:=rfl,width:=?_,glob:=hgl,pin:=fun _ k ls hk hbx=>?_,pinA:=PinA.no fun _ fl e s rows hb=>?_}
 ·show RepV _ _ _ _ (getS (initO 0 (enc x)) k) _
  refine initO_get (enc x) 0 (fun t=>(vs.toArray++Array.replicate (fn.ntmps-vs.toArray.size) undef).getD t undef) (fun j g ls hj=>?_) k
  obtain⟨v,k1,k2⟩:=hargs j g ls hj
  have hlt:j<vs.length:=(gsS k1).1
  have hv:(vs.toArray++Array.replicate (fn.ntmps-vs.toArray.size) undef).getD (0+j) undef=v:=by
   rw [Array.getD_eq_getD_getElem?,Array.getElem?_append_left (by simp;omega)]
   simp [k1]
  rw [hv]
  refine RepC.kp (fun m b _ hm=>?_) (Kp.refl w γ0) k2
  unfold hb7 at hm
  split at hm
  ·rename_i e7
   cases hm
   subst e7
   exact⟨rfl,.ft,rows x,by rw [hget];rfl,rfl⟩
  ·cases hm
 ·rw [hget]at hb'
  split at hb'
  ·rename_i e8
   cases hb'
   subst e8
   refine⟨[],⟨rfl,.inl ⟨by simp,rfl⟩⟩,⟨rfl,fun j x hj=>by simp at hj⟩,fun row hr=>by simp at hr,fun k hk=>by simp [Value.ownBlock]at hk,fun e=>(by cases e),fun e=>(by cases e),fun S h e=>?_⟩
   injection e with e1 e2
   subst e1;subst e2
   exact⟨by simp [Value.ownBlock],fun k hk=>⟨hk,rfl⟩⟩
  ·split at hb'
   ·rename_i e7
    cases hb'
    subst e7
    exact hrow
   ·cases hb'
 ·obtain⟨h1,h2⟩:=hγ k n hk
  refine⟨h1,?_,?_⟩
  ·rcases h2 with rfl|⟨rfl,h3⟩
   ·exact .inr (by rw [hget];simp [nstB,Fl.nst])
   ·exact .inl h3
  ·rcases h2 with rfl|⟨rfl,h3⟩
   ·rw [hget];simp
   ·rw [hget];simp
 ·simp
  omega
 ·rw [hget]at hbx
  simp at hbx
 ·rw [hget]at hb
  simp at hb
def compsR (P:Program)(st:St):List ResultVar→Option (List (Bool×List PL))
 |[]=>some []
 |x::r=>match resV P st x,compsR P st r with
  |some (.comp g ls),some b=>some ((g,ls)::b)
  |_,_=>none
theorem compsR_sound (h:Inv γ0 w0 N st a w η γ):∀{rs:List ResultVar} {vs:List (Bool×List PL)} (_:compsR P st rs=some vs),∃us:List Value,us.length=rs.length∧us.length=vs.length∧(∀(k:Nat) (x:ResultVar),rs[k]?=some x→∃u,us[k]?=some u∧(rsem a x).run P w=Result.ok u w)∧∀(k:Nat) (g:Bool) (ls:List PL),vs[k]?=some (g,ls)→∃u,us[k]?=some u∧RepC (getB st) η γ w g ls u
 |[],vs,hv=>by
  simp only [compsR,Option.some.injEq]at hv
  subst hv
  exact⟨[],rfl,rfl,fun k x hk=>by simp at hk,fun k g ls hk=>by simp at hk⟩
 |x::r,vs,hv=>by
  unfold compsR at hv
  split at hv
  ·rename_i g0 ls0 b h1 h2
   cases hv
   obtain⟨u,hu1,hu2⟩:=resV_sound h h1
   obtain⟨us,l1,l2,l3,l4⟩:=compsR_sound h h2
   refine⟨u::us,by simp [l1],by simp [l2],fun k y hk=>?_,fun k g ls hk=>?_⟩
   ·cases k with
    |zero=>
     simp only [List.getElem?_cons_zero,Option.some.injEq]at hk
     subst hk
     exact⟨u,rfl,hu1⟩
    |succ k=>
     obtain⟨u',h5,h6⟩:=l3 k y (by simpa using hk)
     exact⟨u',by simpa using h5,h6⟩
   ·cases k with
    |zero=>
     simp only [List.getElem?_cons_zero,Option.some.injEq,Prod.mk.injEq]at hk
     obtain⟨rfl,rfl⟩:=hk
     exact⟨u,rfl,hu2⟩
    |succ k=>
     obtain⟨u',h5,h6⟩:=l4 k g ls (by simpa using hk)
     exact⟨u',by simpa using h5,h6⟩
  ·cases hv
theorem results_tup {fn:Func}{us:List Value}(h1:us.length=fn.results.toList.length)(h3:∀(k:Nat) (x:ResultVar),fn.results.toList[k]?=some x→∃u,us[k]?=some u∧(rsem a x).run P w=Result.ok u w)(hn:us.length≠1):(results fn a.tmps).run P w=.ok (.tuple us.toArray) w:=by
 have hrun:=results_run us h1 h3
 have hrun':(fn.results.mapM (rsem a)).run P w=Result.ok us.toArray w:=by
  have e:fn.results=fn.results.toList.toArray:=by simp
  rw [e,List.mapM_toArray]
  simp only [Sem.run_map]
  rw [hrun]
  rfl
 have hfx:(fun x=>match x with
  |.tmp t=>(pure (a.tmps.getD t undef):Sem Value)
  |.cell t ty=>do loadVar ty (←asAddr (a.tmps.getD t undef)))=rsem a:=by
  funext x
  cases x<;>rfl
 have hfun:results fn a.tmps=(fn.results.mapM (rsem a)>>=fun vs=>pure (if h:vs.size=1 then vs[0]'(by rw [h];exact Nat.zero_lt_one)else .tuple vs)):=by
  unfold results
  rw [←hfx]
  rfl
 rw [hfun]
 simp only [Sem.run_bind,hrun',Result.andThen_ok,Sem.run_pure,List.size_toArray]
 rw [dif_neg hn]
theorem At.retO {fn:Func}{m e s:Nat}{rows':List (List Leaf)}{pvs res:List (Bool×List PL)}(hγ:∀b n,γ0 b=some n→n=998∨n=997)
  (hfr:getB st 998=some (.arr (.fr (fun b=>γ0 b=some 998) (fun k=>w0.heap[k]?)) 0 1 [])) (hm:getB st m=some (.arr .ft e s rows'))
  (hr:compsR P st fn.results.toList=some pvs) (hlen:(pvs.length==1)=false) (hok:(pvs.all fun p=>p.2.all (okO m))=true) (hres:(pvs.map fun p=>(p.1,p.2.map (renO 997)))=res):
  At γ0 w0 N st .ret (bodyPost P fn (PostO γ0 w0 e s rows' res)):=by
 classical
 intro a w ⟨η,γ,h⟩
 obtain⟨xs,-,-,-,-,hfl⟩:=h.blks 998 _ hfr
 obtain⟨-,hfo⟩:=hfl.2.2 _ _ rfl
 have hm8:m≠998:=fun e=>by
  rw [e,hfr]at hm
  injection hm with hm
  injection hm with hm
  cases hm
 obtain⟨us,l1,l2,l3,l4⟩:=compsR_sound (P:=P) h hr
 have hlen':us.length≠1:=fun e=>by
  rw [l2]at e
  rw [e]at hlen
  cases hlen
 obtain⟨xs,b1,b2,b3,b4,b5⟩:=h.blks m _ hm
 have hkp:Kp w w γ (fun b=>if γ b=some m then some 997 else γ b):=⟨Nat.le_refl _,fun b _ hb=>⟨by simp [hb],rfl⟩⟩
 refine⟨h.defers,_,results_tup l1 l3 hlen',us,fun _=>η m,fun b=>if γ b=some m then some 997 else γ b,rfl,⟨h.os,h.tape,h.output,h.size⟩,fun b hb hn=>?_,fun b hb=>?_,?_,fun b hb=>?_,by rw [←hres,List.length_map];exact l2,fun j g ls hj=>?_⟩
 ·cases hg:γ0 b with
  |none=>exact(h.low b hb hg).2
  |some k=>
   rcases hγ b k hg with rfl|rfl
   ·exact(hfo b hg).2
   ·exact absurd hg hn
 ·show(if γ b=some m then some 997 else γ b)≠none
  rw [(hfo b hb).1]
  split
  ·simp
  ·simp
 ·refine⟨xs,b1,?_,b3,fun b hb=>by simp [b4 b hb],b5.kp fun b hb=>by simp [hb]⟩
  rw [vw_of rfl]at b2⊢
  exact b2.kp hkp
 ·have hgb:=b4 b hb
  rcases Nat.lt_or_ge b w0.heap.size with hlt|hge
  ·left
   cases hg:γ0 b with
   |none=>
    have:=(h.low b hlt hg).1
    rw [hgb]at this
    cases this
   |some k=>
    rcases hγ b k hg with rfl|rfl
    ·have:=(hfo b hg).1
     rw [hgb]at this
     injection this with this
     exact absurd this hm8
    ·rfl
  ·exact .inr hge
 ·rw [←hres,List.getElem?_map]at hj
  obtain⟨⟨g0,ls0⟩,h4,h5⟩:=oms hj
  simp only [Prod.mk.injEq]at h5
  obtain⟨rfl,rfl⟩:=h5
  obtain⟨u,h6,h7⟩:=l4 j _ _ h4
  exact⟨u,h6,h7.renO (List.all_eq_true.1 hok _ (List.mem_of_getElem? h4)) rfl ⟨.ft,e,s,rows',rfl⟩ hkp⟩
theorem Inv.turnOw (h:Inv γ0 w0 N st a w η γ)(n:Nat)(hn9:n≠999){fl e0 s0 rows0}(hb0:getB st n=some (.arr fl e0 s0 rows0))(w':World)(hos:w'.os=w.os)(htape:w'.tape=w.tape)(hout:w'.output=w.output)(hsize:w.heap.size≤w'.heap.size)
  (hold:∀k,k<w.heap.size→γ k≠some n→w'.heap[k]?=w.heap[k]?) (u:Value) {γr:Nat→Option Nat} {e s:Nat} {rows:List (List Leaf)} (hrow:RepB (hb7 e s rows) (fun _=>u) γr w' 997 (.arr .ft e s rows)) (hown:∀b,u.ownBlock=some b→γ b=some n∨w.heap.size≤b)
  (hγr:∀b,γr b=none→γ b=none∨γ b=some n):
  ∃γ',Inv γ0 w0 N (.blk n (.arr .ft e s rows)::.kill n::st) a w' (fun m=>if m=n then u else η m) γ'∧Kp w' w' γr γ':=by
 classical
 obtain⟨xs,r1,r2,r3,r4,r5⟩:=hrow
 let γ':Nat→Option Nat:=fun b=>if u.ownBlock=some b then some n else if γ b=some n then none else γ b
 have hyoung:∀b,w.heap.size≤b→γ b=none:=fun b hb=>by
  cases hg:γ b with
  |none=>rfl
  |some m=>
   have:=(h.live b m hg).1
   omega
 have hkr:Kp w' w' γr γ':=⟨Nat.le_refl _,fun b _ hb=>⟨by
  have h1:¬u.ownBlock=some b:=fun e=>by rw [r4 b e]at hb;cases hb
  simp only [γ',if_neg h1]
  rcases hγr b hb with h2|h2
  ·simp [h2]
  ·simp [h2],rfl⟩⟩
 have hkw:Kp w w' γ γ':=⟨hsize,fun b hlt hb=>⟨by
  have h1:¬u.ownBlock=some b:=fun e=>by
   rcases hown b e with h2|h2
   ·rw [hb]at h2;cases h2
   ·omega
  simp only [γ',if_neg h1,hb]
  simp,hold b hlt (by rw [hb];simp)⟩⟩
 have hget:∀m,getB (.blk n (.arr .ft e s rows)::.kill n::st) m=if n=m then some (.arr .ft e s rows)else(getB st m).map (Blk.kill n):=fun m=>by
  simp only [getB]
  by_cases e:n=m
  ·rw [if_pos e,if_pos e]
  ·rw [if_neg e,if_neg e,if_neg e]
 have hnm:Nm (getB st) (getB (.blk n (.arr .ft e s rows)::.kill n::st)) η (fun m=>if m=n then u else η m) (· ≠n):=by
  intro m b hm hb
  have hne:¬n=m:=fun e=>hm e.symm
  refine⟨if_neg hm,?_⟩
  cases b with
  |arr fl e s rows=>exact⟨fl,rows,by rw [hget,if_neg hne,hb];rfl,rfl⟩
  |box ls=>exact⟨ls.map (PL.kill n),by rw [hget,if_neg hne,hb];rfl⟩
 have hother:∀m b,m≠n→γ b=some m→γ' b=some m∧w'.heap[b]?=w.heap[b]?:=fun m b hm hb=>by
  have h1:¬u.ownBlock=some b:=fun e=>by
   rcases hown b e with h2|h2
   ·rw [hb]at h2;injection h2 with h2;exact hm h2
   ·rw [hyoung b h2]at hb;cases hb
  have h2:¬γ b=some n:=fun e=>by rw [hb]at e;injection e with e;exact hm e
  exact⟨by show(if u.ownBlock=some b then some n else if γ b=some n then none else γ b)=some m;rw [if_neg h1,if_neg h2];exact hb,hold b (h.live b m hb).1 h2⟩
 refine⟨γ',{h with slots:=fun t=>(h.slots t).kill hnm hkw,blks:=fun m b hb=>?_,live:=fun b m hb=>?_,low:=fun b hb hg=>?_,os:=hos.trans h.os,tape:=htape.trans h.tape,output:=hout.trans h.output,size:=Nat.le_trans h.size hsize,pin:=fun h9 b ls hb hbx=>?_,pinA:=fun h9 fl e s rows hbx=>?_},hkr⟩
 ·rw [hget]at hb
  by_cases hne:n=m
  ·rw [if_pos hne]at hb
   cases hb
   subst hne
   refine⟨xs,by simpa using r1,?_,r3,fun b hb=>?_,?_⟩
   ·rw [vw_of rfl]at r2⊢
    exact r2.kp hkr
   ·have hb:u.ownBlock=some b:=by simpa using hb
    simp only [γ',if_pos hb]
   ·exact⟨r5.1,fun e=>(by cases e),fun S q e=>(by cases e)⟩
  ·rw [if_neg hne]at hb
   obtain⟨b0,hb0',rfl⟩:=oms hb
   have hne':¬m=n:=fun e=>hne e.symm
   have h1:=h.blks m b0 hb0'
   cases b0 with
   |box ls=>
    obtain⟨b,us,t,h2,h3,h4,h5⟩:=h1
    obtain⟨q1,q2⟩:=hother m b hne' h3
    exact⟨b,us,t,by show(if m=n then u else η m)=_;rw [if_neg hne'];exact h2,q1,by rw [q2];exact h4,h5.kill hnm hkw⟩
   |arr fl e s rows=>
    obtain⟨xs,h2,h3,h4,h5,h6⟩:=h1
    have hη:(fun m=>if m=n then u else η m) m=η m:=if_neg hne'
    refine⟨xs,?_,?_,h4,fun b hb=>?_,?_⟩
    ·rw [hη]
     exact owns_same h2 fun b hb=>(hother m b hne' (h5 b hb)).2
    ·rw [hη]
     exact h3.kp (hkw.vw fun b hb=>hother m b hne' hb)
    ·rw [hη]at hb
     exact(hother m b hne' (h5 b hb)).1
    ·rw [hη]
     exact h6.kpW (fun b hb=>(hother m b hne' hb).1) (fun b hb _=>(hother m b hne' hb).2)
 ·simp only [γ']at hb
  by_cases hu:u.ownBlock=some b
  ·rw [if_pos hu]at hb
   cases hb
   refine⟨?_,.inl ?_,by rw [hget,if_pos rfl];rfl⟩
   ·obtain⟨_,h2⟩:=r1
    rcases h2 with⟨h2,_⟩|⟨g,cap,cur,hv,h3,h4,_⟩
    ·have h2':u=.slice none 0 0:=h2
     rw [h2']at hu
     simp [Value.ownBlock]at hu
    ·have hv':u=_:=hv
     rw [hv']at hu
     have:g=b:=by simpa [Value.ownBlock]using hu
     rw [←this]
     exact heap_lt h4
   ·show hdrBlock (if n=n then u else η n)=some b
    rw [if_pos rfl]
    cases u with
    |slice p l c=>
     cases p with
     |none=>simp [Value.ownBlock]at hu
     |some ad=>simpa [Value.ownBlock,hdrBlock]using hu
    |_=>simp [Value.ownBlock]at hu
  ·rw [if_neg hu]at hb
   by_cases hg:γ b=some n
   ·rw [if_pos hg]at hb;cases hb
   ·rw [if_neg hg]at hb
    obtain⟨h1,h2,h3⟩:=h.live b m hb
    have hne:¬n=m:=fun e=>hg (e▸hb)
    refine⟨Nat.lt_of_lt_of_le h1 hsize,h2.imp (fun h2=>?_) (fun h2=>?_),?_⟩
    ·show hdrBlock (if m=n then u else η m)=some b
     rw [if_neg (fun e=>hne e.symm)]
     exact h2
    ·rw [hget,if_neg hne]
     exact nstB_kill h2
    ·rw [hget,if_neg hne]
     cases hgb:getB st m with
     |none=>rw [hgb]at h3;cases h3
     |some b=>rfl
 ·obtain⟨h1,h2⟩:=h.low b hb hg
  have hlt:=Nat.lt_of_lt_of_le hb h.size
  obtain⟨h3,h4⟩:=hkw.2 b hlt h1
  exact⟨h3,h4.trans h2⟩
 ·simp only [γ']at hb
  split at hb
  ·injection hb with hb;exact absurd hb hn9
  ·split at hb
   ·cases hb
   ·rw [hget,if_neg hn9]at hbx
    obtain⟨b0,hb1,hb2⟩:=oms hbx
    cases b0 with
    |arr fl e s rows=>cases hb2
    |box ls0=>exact h.pin h9 b ls0 hb hb1
 ·rw [hget,if_neg hn9]at hbx
  obtain⟨b0,hb1,hb2⟩:=oms hbx
  have hη:(fun m=>if m=n then u else η m) 999=η 999:=if_neg (fun e=>hn9 e.symm)
  cases b0 with
  |box ls0=>cases hb2
  |arr fl' e' s' rows'=>
   have hb3:Blk.arr fl' e' s' rows'=.arr fl e s rows:=hb2
   rw [hb3]at hb1
   rw [hη]
   exact h.pinA h9 fl e s rows hb1
def argsR (st:St)(n:Nat):List Operand→Option (List (Bool×List PL))
 |[]=>some []
 |x::r=>match ev st x,argsR st n r with
  |.comp g ls,some b=>if ls.all (okO n)=true then some ((g,ls.map (renO 997))::b)else none
  |_,_=>none
def resR (n:Nat)(res:List (Bool×List PL)):List (Bool×List PL):=res.map fun p=>(p.1,p.2.map (renO n))
theorem argsR_sound (h:Inv γ0 w0 N st a w η γ){n e s:Nat}{rows:List (List Leaf)}{γc:Nat→Option Nat}(hk:Kp w w γ γc):∀{xs:List Operand} {en:List (Bool×List PL)} (_:argsR st n xs=some en),(xs.map a.eval).length=en.length∧∀(j:Nat) (g:Bool) (ls:List PL),en[j]?=some (g,ls)→∃v,(xs.map a.eval)[j]?=some v∧RepC (hb7 e s rows) (fun _=>η n) γc w g ls v
 |[],en,he=>by
  simp only [argsR,Option.some.injEq]at he
  subst he
  exact⟨rfl,fun j g ls hj=>by simp at hj⟩
 |x::r,en,he=>by
  unfold argsR at he
  split at he
  ·rename_i g0 ls0 b h1 h2
   split at he
   ·rename_i hok
    cases he
    obtain⟨l1,l2⟩:=argsR_sound h (e:=e) (s:=s) (rows:=rows) hk h2
    have h0:=ev_sound h x
    rw [h1]at h0
    refine⟨by simp at l1⊢;exact l1,fun j g ls hj=>?_⟩
    cases j with
    |zero=>
     simp only [List.getElem?_cons_zero,Option.some.injEq,Prod.mk.injEq]at hj
     obtain⟨rfl,rfl⟩:=hj
     exact⟨_,rfl,RepC.renO hok rfl ⟨.ft,e,s,rows,rfl⟩ hk h0⟩
    |succ j=>
     obtain⟨v,h5,h6⟩:=l2 j g ls (by simpa using hj)
     exact⟨v,by simpa using h5,h6⟩
   ·cases he
  ·cases he
theorem opO_wp {d f n:Nat}{xs:List Operand}{ts:Array TypeId}{ty:TypeId}{pos:String}{after:Array Edge}{α:Type}{ok:α→Prop}{e s:Nat}{rows rows':α→List (List Leaf)}{enc res:α→List (Bool×List PL)}
  (hf:Has P f) (hs:SoundO P f ok e s rows enc rows' res) (x:α) (hok:ok x) (hN:d<N) (hn9:n≠999) (hb:getB st n=some (.arr .ft e s (rows x))) (ha:argsR st n xs=some (enc x)) (hro:((res x).all fun p=>p.2.all (okO 997))=true) {K:Act→World→Prop}
  (hK:∀a w,R γ0 w0 N (.slot d (.tup (resR n (res x)))::.blk n (.arr .ft e s (rows' x))::.kill n::st) a w→K a w) (hR:R γ0 w0 N st a w):
  Oper.wp P ⟨some d,.call ⟨.value (.func f),xs.toArray,ts⟩,ty,pos,after,none⟩ a w K Q:=by
 classical
 obtain⟨η,γ,hI⟩:=hR
 let γc:Nat→Option Nat:=fun b=>if γ b=some n then some 997 else if γ b=none then none else some 998
 have hkc:Kp w w γ γc:=⟨Nat.le_refl _,fun b _ hb=>⟨by simp only [γc,hb];simp,rfl⟩⟩
 have hc7:∀b,γc b=some 997→γ b=some n:=fun b h=>by
  simp only [γc]at h
  split at h
  ·rename_i h1;exact h1
  ·split at h
   ·cases h
   ·cases h
 have hc7':∀b,γ b=some n→γc b=some 997:=fun b h=>by simp only [γc,h];simp
 have hc8:∀b m,γ b=some m→m≠n→γc b=some 998:=fun b m h hm=>by
  have h1:¬γ b=some n:=fun e=>by rw [h]at e;injection e with e;exact hm e
  simp only [γc,if_neg h1,h]
  simp
 have hglob:GlobOk γc w:=fun g vs hg=>by
  obtain⟨k1,k2,k3⟩:=hI.globw g vs hg
  obtain⟨m1,m2,_⟩:=hI.glob g vs hg
  have hgn:=(hI.low g m2 m1).1
  exact⟨by simp only [γc,hgn];simp,k2,k3⟩
 obtain⟨xs0,b1,b2,b3,b4,b5⟩:=hI.blks n _ hb
 have hrow:RepB (hb7 e s (rows x)) (fun _=>η n) γc w 997 (.arr .ft e s (rows x)):=by
  refine⟨xs0,b1,?_,b3,fun b hb=>hc7' b (b4 b hb),b5.kp hc7'⟩
  rw [vw_of rfl]at b2⊢
  exact b2.kp hkc
 have hγ:∀b k,γc b=some k→b<w.heap.size∧(k=998∨(k=997∧hdrBlock ((fun _=>η n:Nat→Value) 997)=some b)):=fun b k hk=>by
  cases hg:γ b with
  |none=>
   simp only [γc,hg]at hk
   simp at hk
  |some m=>
   obtain⟨l1,l2,l3⟩:=hI.live b m hg
   refine⟨l1,?_⟩
   by_cases hm:m=n
   ·subst hm
    rw [hc7' b hg]at hk
    cases hk
    right
    refine⟨rfl,?_⟩
    rcases l2 with l2|l2
    ·exact l2
    ·rw [hb]at l2
     cases l2
   ·rw [hc8 b m hg hm]at hk
    cases hk
    exact .inl rfl
 obtain⟨hlen,hargs⟩:=argsR_sound (e:=e) (s:=s) (rows:=rows x) hI hkc ha
 have hcall:=hs x (fun _=>η n) γc (xs.map a.eval) w hok hglob hγ hrow hlen hargs
 have hrun:=enter_of (P:=P) hf (a:=a) (w:=w) (args:=xs) (ts:=ts) (dst:=some d) (ty:=ty) (pos:=pos) (after:=after) (g:=none)
 unfold Oper.wp
 rw [hrun]
 show Calls P f (xs.map a.eval).toArray w _
 refine hcall.mono fun en w' ⟨us,η',γ',he,⟨hos,htape,hout,hsize⟩,hold,hfor,hrow',hown,hlen',hres⟩=>?_
 subst he
 obtain⟨γ2,hI2,hk2⟩:=hI.turnOw n hn9 hb w' hos htape hout hsize (fun k hk hg=>hold k hk fun e=>hg (hc7 k e)) (η' 997) (e:=e) (s:=s) (rows:=rows' x) (γr:=γ') hrow' (fun b hb=>(hown b hb).imp (hc7 b) id) (fun b hb=>by
  cases hg:γ b with
  |none=>exact .inl rfl
  |some m=>
   by_cases hm:m=n
   ·subst hm;exact .inr rfl
   ·exact absurd hb (hfor b (hc8 b m hg hm)))
 refine hK _ _ ⟨_,γ2,hI2.put d _ _ hN ⟨us,rfl,by rw [hlen'];unfold resR;rw [List.length_map],fun j g ls hj=>?_⟩⟩
 unfold resR at hj
 rw [List.getElem?_map]at hj
 obtain⟨⟨g0,ls0⟩,h4,h5⟩:=oms hj
 simp only [Prod.mk.injEq]at h5
 obtain⟨rfl,rfl⟩:=h5
 obtain⟨v,h6,h7⟩:=hres j _ _ h4
 exact⟨v,h6,h7.renO (List.all_eq_true.1 hro _ (List.mem_of_getElem? h4)) (if_pos rfl) ⟨.ft,e,s,rows' x,by rw [getB_hit]⟩ hk2⟩
theorem WL.opO {ops:Array Oper}{r:List Oper}{d f n:Nat}{xs:List Operand}{ts:Array TypeId}{ty:TypeId}{pos:String}{after:Array Edge}{α:Type}{ok:α→Prop}{e s:Nat}{rows rows':α→List (List Leaf)}{enc res:α→List (Bool×List PL)}
  (hf:Has P f) (hs:SoundO P f ok e s rows enc rows' res) (x:α) (hok:ok x) (hN:d<N) (hn9:n≠999) (hb:getB st n=some (.arr .ft e s (rows x))) (ha:argsR st n xs=some (enc x)) (hro:((res x).all fun p=>p.2.all (okO 997))=true)
  (h:WL P γ0 w0 N ops r (.slot d (.tup (resR n (res x)))::.blk n (.arr .ft e s (rows' x))::.kill n::st) Q):
  WL P γ0 w0 N ops (⟨some d,.call ⟨.value (.func f),xs.toArray,ts⟩,ty,pos,after,none⟩::r) st Q:=fun a w hR=>
 wpList_plain rfl fun K hK=>opO_wp hf hs x hok hN hn9 hb ha hro (fun a' w' hR'=>hK a' w' (h a' w' hR')) hR
end
end
end Go.Proofs.YtfgkfcfplodaoaaGreatDoor
