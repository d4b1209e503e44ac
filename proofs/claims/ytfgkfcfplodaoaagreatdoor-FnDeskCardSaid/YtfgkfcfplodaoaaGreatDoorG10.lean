/-
  Put together out of 2 texts.
-/
import Derived.Test.YtfgkfcfplodaoaaGreatDoorG8
set_option linter.unusedSimpArgs false
set_option linter.unusedVariables false
set_option maxRecDepth 100000
namespace Go.Proofs.YtfgkfcfplodaoaaGreatDoor
open Go Go.RowKit
section
def maskL:List Bool→Nat
 |[]=>0
 |b::r=>(if b then 1 else 0)+2*maskL r
theorem maskL_bit:∀(bs:List Bool) (i:Nat),(maskL bs).testBit i=bs.getD i false
 |[],i=>by simp [maskL]
 |b::r,0=>by
  rw [Nat.testBit_zero]
  unfold maskL
  cases b<;>simp
 |b::r,i+1=>by
  rw [Nat.testBit_succ]
  have e:maskL (b::r)/2=maskL r:=by
   rw [show maskL (b::r)=(if b then 1 else 0)+2*maskL r from rfl]
   split<;>omega
  rw [e,maskL_bit r i]
  rfl
theorem maskL_lt:∀(bs:List Bool),maskL bs<2^bs.length
 |[]=>by simp [maskL]
 |b::r=>by
  have:=maskL_lt r
  rw [show maskL (b::r)=(if b then 1 else 0)+2*maskL r from rfl]
  rw [List.length_cons,Nat.pow_succ]
  split<;>omega
theorem maskL_set:∀(bs:List Bool) (i:Nat),i<bs.length→bs.getD i false=false→maskL (bs.set i true)=maskL bs+2^i
 |[],i,h,_=>by simp at h
 |b::r,0,_,h=>by
  have:b=false:=h
  subst this
  simp [maskL]
  omega
 |b::r,i+1,h,h2=>by
  have ih:=maskL_set r i (by simpa using h) h2
  simp only [List.set_cons_succ,maskL,ih,Nat.pow_succ]
  omega
def msk (listed:Array Bool):Nat:=maskL listed.toList
theorem msk_bit (listed:Array Bool)(i:Nat):(msk listed).testBit i=L listed i:=by
 unfold msk L
 rw [maskL_bit]
 simp [List.getD_eq_getElem?_getD,Array.getD_eq_getD_getElem?]
theorem msk_set {listed:Array Bool}{i:Nat}(hi:i<listed.size)(h:L listed i=false):msk (listed.setIfInBounds i true)=msk listed+2^i:=by
 unfold msk
 rw [Array.toList_setIfInBounds]
 refine maskL_set _ _ (by simpa using hi) ?_
 unfold L at h
 simpa [List.getD_eq_getElem?_getD,Array.getD_eq_getD_getElem?]using h
def closB (l:List Oper)(m:Nat):Bool:=(List.range l.length).all fun j=>!m.testBit j||match l[j]? with
 |some o=>(dirO o).all fun k=>m.testBit k
 |none=>true
def avlB (l:List Oper)(m i:Nat):Bool:=!m.testBit i&&match l[i]? with
 |some o=>(dirO o).all fun k=>m.testBit k
 |none=>false
def prs (l:List Oper):List (Nat×Nat):=((List.range (2^l.length)).filter (closB l)).flatMap fun m=>((List.range l.length).filter (avlB l m)).map fun i=>(m,i)
def dirB (l:List Oper):Bool:=(List.range l.length).all fun i=>match l[i]? with
 |some o=>(dirO o).all fun k=>decide (k<i)
 |none=>true
section
variable {P:Program}{Γ:Models}{γ0:Nat→Option Nat}{w0:World}{N:Nat}{Q:Exit→Act→World→Prop}{l:List Oper}
def StepAt (P:Program)(Γ:Models)(N:Nat)(l:List Oper)(J:Nat→St)(x:Nat×Nat):Prop:=
 ∃o st',l[x.2]?=some o∧o.guard=none∧stepO P Γ N (J x.1) o.dst o.op=some st'∧Sub (J (x.1+2^x.2)) st'
theorem prs_mem {listed:Array Bool}(hs:listed.size=l.length)(hc:Closed l listed){i:Nat}{o:Oper}(ho:l[i]?=some o)(hL:L listed i=false)(hd:∀k∈dirO o,L listed k=true):(msk listed,i)∈prs l:=by
 have hi:=(gsS ho).1
 unfold prs
 refine List.mem_flatMap.2 ⟨msk listed,List.mem_filter.2 ⟨List.mem_range.2 ?_,?_⟩,List.mem_map.2 ⟨i,List.mem_filter.2 ⟨List.mem_range.2 hi,?_⟩,rfl⟩⟩
 ·have:=maskL_lt listed.toList
  rw [Array.length_toList,hs]at this
  exact this
 ·unfold closB
  rw [List.all_eq_true]
  intro j _
  rw [msk_bit]
  cases hj:L listed j with
  |false=>rfl
  |true=>
   cases hoj:l[j]? with
   |none=>rfl
   |some oj=>
    simp only [Bool.not_true,Bool.false_or,List.all_eq_true]
    intro k hk
    rw [msk_bit]
    exact hc j oj hoj hj k hk
 ·unfold avlB
  rw [msk_bit,hL,ho]
  simp only [Bool.not_false,Bool.true_and,List.all_eq_true]
  intro k hk
  rw [msk_bit]
  exact hd k hk
theorem draw_all (hΓ:GSound P Γ)(hD:dirB l=true)(J:Nat→St)(hS:∀x∈prs l,StepAt P Γ N l J x)(hT:WL P γ0 w0 N l.toArray [] (J (2^l.length-1)) Q):
  ∀(fuel:Nat) (listed:Array Bool) (a:Act) (w:World),listed.size=l.length→Closed l listed→(List.range l.length).countP (fun i=>!L listed i)≤fuel→R γ0 w0 N (J (msk listed)) a w→wpAny P .any l.toArray Q fuel listed a w:=by
 have hfull:∀listed:Array Bool,listed.size=l.length→(∀i,i<l.length→L listed i=true)→msk listed=2^l.length-1:=fun listed hs hall=>by
  refine Nat.eq_of_testBit_eq fun i=>?_
  rw [msk_bit,Nat.testBit_two_pow_sub_one]
  by_cases hi:i<l.length
  ·rw [hall i hi];simp [hi]
  ·have:L listed i=false:=by
    unfold L
    simp [Array.getD_eq_getD_getElem?,Array.getElem?_eq_none (show listed.size≤i by omega)]
   rw [this];simp [hi]
 have hend:∀(listed:Array Bool) (a:Act) (w:World),listed.size=l.length→(∀i,i<l.length→L listed i=true)→R γ0 w0 N (J (msk listed)) a w→Q .normal a w:=fun listed a w hs hall hR=>hT a w (by rw [←hfull listed hs hall];exact hR)
 have hnone:∀listed:Array Bool,listed.size=l.length→(∀i,i<l.length→L listed i=true)→∀i,i∉Region.ready .any l.toArray listed:=fun listed hs hall i hi=>by
  obtain⟨o,h1,h2,_⟩:=ready_spec hs hi
  rw [hall i (gsS h1).1]at h2
  cases h2
 have hready:∀listed:Array Bool,listed.size=l.length→Region.ready .any l.toArray listed=[]→∀i,i<l.length→L listed i=true:=fun listed hs hr i=>by
  induction i using Nat.strongRecOn with
  |_ i ih=>
   intro hi
   cases hL:L listed i with
   |true=>rfl
   |false=>
    have hok:l[i]?=some l[i]:=gsE hi
    have:=ready_of hs hok hL (fun k hk=>by
     have h1:=List.all_eq_true.1 hD i (List.mem_range.2 hi)
     rw [hok]at h1
     have h2:=of_decide_eq_true (List.all_eq_true.1 h1 k hk)
     exact ih k h2 (by omega))
    rw [hr]at this
    cases this
 intro fuel
 induction fuel with
 |zero=>
  intro listed a w hs hc hcnt hR
  have hall:∀i,i<l.length→L listed i=true:=fun i hi=>by
   have:=List.countP_eq_zero.1 (Nat.le_zero.1 hcnt) i (List.mem_range.2 hi)
   simpa using this
  exact⟨List.eq_nil_iff_forall_not_mem.2 (hnone listed hs hall),hend listed a w hs hall hR⟩
 |succ fuel ih=>
  intro listed a w hs hc hcnt hR
  refine⟨fun hr=>hend listed a w hs (hready listed hs hr) hR,fun i hi=>?_⟩
  obtain⟨o,h1,h2,h3⟩:=ready_spec hs hi
  have hlt:=(gsS h1).1
  obtain⟨o',st',e1,e2,e3,e4⟩:=hS _ (prs_mem hs hc h1 h2 h3)
  dsimp only at e1 e3 e4
  rw [h1]at e1
  cases e1
  have hset:∀j,L (listed.setIfInBounds i true) j=if i=j then true else L listed j:=L_set (by omega)
  have hcl:Closed l (listed.setIfInBounds i true):=fun j o' hj hL k hk=>by
   rw [hset]at hL⊢
   by_cases e:i=j
   ·subst e
    rw [h1]at hj
    cases hj
    split
    ·rfl
    ·exact h3 k hk
   ·rw [if_neg e]at hL
    split
    ·rfl
    ·exact hc j o' hj hL k hk
  have hct:(List.range l.length).countP (fun j=>!L (listed.setIfInBounds i true) j)≤fuel:=by
   have:=count_set (fun j=>!L listed j) (fun j=>!L (listed.setIfInBounds i true) j) i (by simp [h2]) (by simp [hset]) (fun j hj=>by simp only [hset,if_neg (fun e:i=j=>hj e.symm)]) (List.range l.length) List.nodup_range (List.mem_range.2 hlt)
   omega
  have hsz:(listed.setIfInBounds i true).size=l.length:=by simpa using hs
  unfold wpOp
  have hget:l.toArray[i]?=some o:=by simpa using h1
  rw [hget]
  simp only
  rw [if_pos (by simp [Region.wanted,e2])]
  left
  exact stepO_sound hΓ hR e3 fun a' w' hR'=>ih _ a' w' hsz hcl hct (by rw [msk_set (by omega) h2];exact hR'.sub e4)
theorem W.allC (hm:P.follows .mixedOrders=true)(hΓ:GSound P Γ){id:Nat}{st0:St}(J:Nat→St)(h0:J 0=st0)(hD:dirB l=true)(hS:∀x∈prs l,StepAt P Γ N l J x)(hT:WL P γ0 w0 N l.toArray [] (J (2^l.length-1)) Q):
  W P γ0 w0 N st0 (.region id l.toArray true) Q:=fun a w hR=>by
 refine wp_region_any hm ?_
 obtain⟨η,γ,hI⟩:=hR
 have hR':R γ0 w0 N st0 a w.drew:=⟨η,γ,hI.world w.drew rfl rfl rfl rfl⟩
 have hL0:∀i,L (Array.replicate l.toArray.size false) i=false:=fun i=>by
  unfold L
  simp only [Array.getD_eq_getD_getElem?,Array.getElem?_replicate]
  split<;>rfl
 have hm0:msk (Array.replicate l.toArray.size false)=0:=Nat.eq_of_testBit_eq fun i=>by rw [msk_bit,hL0];simp
 refine draw_all hΓ hD J hS hT _ _ a w.drew (by simp) (fun i o _ hL=>by rw [hL0]at hL;cases hL) ?_ (by rw [hm0,h0];exact hR')
 refine Nat.le_trans List.countP_le_length ?_
 simp
end
def tabJ:List (Nat×St)→Nat→St
 |[],_=>[]
 |(k,s)::r,m=>if k=m then s else tabJ r m
def putB (n:Nat):Option Blk→St→St
 |some b,r=>.blk n b::r
 |none,r=>r
def cleanG (st:St):St→St
 |[]=>[]
 |.slot t _::r=>.slot t (getS st t)::cleanG st r
 |.blk n _::r=>putB n (getB st n) (cleanG st r)
 |.kill _::r=>cleanG st r
def AllGo (Γ:Models)(γ0:Nat→Option Nat)(w0:World)(N:Nat)(l:List Oper)(id:Nat)(st0:St)(Q:Exit→Act→World→Prop)(tab:List (Nat×St)):Prop:=W Tryz.prog γ0 w0 N st0 (.region id l.toArray true) Q
section
variable {Γ:Models}{γ0:Nat→Option Nat}{w0:World}{N:Nat}{Q:Exit→Act→World→Prop}{l:List Oper}{id:Nat}{st0:St}{tab:List (Nat×St)}
theorem AllGo.start (hΓ:GSound Tryz.prog Γ)(h:AllGo Γ γ0 w0 N l id st0 Q [(0,st0)]):W Tryz.prog γ0 w0 N st0 (.region id l.toArray true) Q:=h
theorem AllGo.add {tab':List (Nat×St)}{stm st' st2:St}{o:Oper}(m i:Nat)(ho:l[i]?=some o:=by rfl)(hm:tabJ tab m=stm:=by simp only [tabJ,eq_self,Nat.reduceEqDiff,reduceIte]<;>rfl)(hs:stepO Tryz.prog Γ N stm o.dst o.op=some st':=by exact evsP)
  (hc:cleanG st' st'=st2:=by simp only [cleanG];simp (config := { maxSteps := 1000000 }) (disch:=first|assumption|omega) only [TY,ar_u64,binE,eqCells,eqVal,eqOp,step_mk,makeE,List.toList_toArray,Value.oneCell',step_fnv,step_makeFunc,ev_func,callV,cells_agg,cells_int,cells_bool,cells_str,cells_sl,List.size_toArray,flatB_nil,flatB_cons,wid_nil,wid_cons,rowsF_len,rowsF_flat,rowsF_app,step_build,buildE,fillE,indexSlE,indexArrE,shiftE,indexArrV,indexStE,step_move,step_assign,step_pick,step_load,step_nilCheck,step_binOp,step_unOp,step_convert,step_slice,step_fieldAddr,step_field,step_indexAddr,step_index,step_extract,step_len,step_min,step_max,step_alloc,step_box,step_lit,step_app,step_fn,step_store,putV_some,getS_hit,getS_miss,getS_blk,getS_kill,getS_nil,getB_nil,getB_slot,getB_hit,getB_miss,getB_kill0,getB_kill1,ev_tmp,ev_int,ev_bool,ev_str,ev_nil,ev_agg,cl_int,cl_bool,cl_str,cl_nil,loadE,loadV,fieldAddrE,fieldE,partV,indexAddrE,lenE,lenO,strIdx,indexE,boundE,subE,sliceE,convE,minE,scal,nilE,tupE,capsE,optE,pickE,pbin,pint,pstr,pun,ar_in,ar_u32,ar_u8,allocE,boxE,litE,rowsO,leafO,leafsO,frz,clr,rowsOf,flB,Fl.and,Fl.nst,Fl.ok,Fl.isFl,noRef,nstOk,flatAt,hasAll,absL,appN,Fl.isNd,asN,storeN,Nat.reduceBNe,destOf,appE,storeE,argO,argsO,boxesO,callG,callE,impE,pvR,pvs,pvRL,pvT,owns,ownsT,ownsR,clrL,withB,PV.kill,PL.kill,PL.names,Blk.kill,PL.live,toPL,resV,resO,compsO,compO,rlsO,rlO,toRes,Leaf.isSc,List.map_cons,List.map_nil,List.all_cons,List.all_nil,List.length_cons,List.length_nil,List.drop_zero,List.drop_succ_cons,List.take_succ_cons,List.take_zero,List.drop_nil,List.take_nil,List.getElem?_cons_zero,List.getElem?_cons_succ,List.getElem?_nil,Option.map_some,Option.map_none,Option.bind_some,Option.isSome_some,Option.isSome_none,List.cons_append,List.nil_append,List.append_nil,if_true,if_false,reduceIte,Nat.reduceLT,Nat.reduceBEq,Nat.reduceLeDiff,Nat.reduceEqDiff,Nat.reduceAdd,Nat.reduceMul,Nat.zero_add,Nat.add_zero,Nat.mul_one,Int.reduceToNat,Bool.and_true,Bool.true_and,Bool.false_and,Bool.and_false,Bool.not_true,Bool.not_false,Bool.false_eq_true,decide_true,decide_false,and_self,and_true,true_and,or_true,true_or,or_false,false_or,if_pos,if_neg,Int.toNat_natCast,decide_eq_true,decide_eq_false,look_hit,look_miss,Int.ofNat_eq_natCast,Bool.or_false,Bool.or_true,Bool.true_or,Bool.false_or,Bool.not_eq_true,beq_self_eq_true,ne_eq,not_false_eq_true,not_true_eq_false,eq_self, *];(try simp only [putB]);rfl) (ht:tab++[(m+2^i,st2)]=tab':=by simp only [List.cons_append,List.nil_append,Nat.reduceAdd,Nat.reducePow];rfl) (h:AllGo Γ γ0 w0 N l id st0 Q tab'):AllGo Γ γ0 w0 N l id st0 Q tab:=h
theorem AllGo.done {stE:St}(hΓ:GSound Tryz.prog Γ)(ps:List (Nat×Nat))(hp:prs l=ps)(hD:dirB l=true)(h0:tabJ tab 0=st0)(hS:∀x∈ps,StepAt Tryz.prog Γ N l (tabJ tab) x)(hE:tabJ tab (2^l.length-1)=stE)(hT:WL Tryz.prog γ0 w0 N l.toArray [] stE Q):AllGo Γ γ0 w0 N l id st0 Q tab:=by
 subst hE
 exact W.allC follows_mixed hΓ (tabJ tab) h0 hD (fun x hx=>hS x (hp▸hx)) hT
theorem StepAt.mk' {J:Nat→St}{m i:Nat}{o:Oper}{stm st' stn:St}(ho:l[i]?=some o)(hg:o.guard=none)(hm:J m=stm)(hn:J (m+2^i)=stn)(hs:stepO Tryz.prog Γ N stm o.dst o.op=some st')(hb:Sub stn st'):StepAt Tryz.prog Γ N l J (m,i):=
 ⟨o,st',ho,hg,by rw [hm];exact hs,by rw [hn];exact hb⟩
end
end
section
def lateOkO (l:List Oper)(p:Nat)(As:List (List Nat))(late:List Nat):Bool:=
 (late.all fun i=>decide (i<p)&&match l[i]? with
  |some ⟨some _,.move _,_,_,_,none⟩=>true
  |some ⟨some _,.extract _ _,_,_,_,none⟩=>true
  |some ⟨some _,.binOp _ _ _ _ _,_,_,_,none⟩=>true
  |_=>false)&&(List.range p).all fun j=>late.contains j||(ancO As p).contains j
section
variable {P:Program}{Γ:Models}{γ0:Nat→Option Nat}{w0:World}{N:Nat}{Q:Exit→Act→World→Prop}{l:List Oper}{p:Nat}{As:List (List Nat)}{Es:List (List Entry)}{st0 st st':St}{a:Act}{w:World}
def lateOpO:Op→Bool
 |.move _=>true
 |.extract _ _=>true
 |.binOp _ _ _ _ _=>true
 |_=>false
theorem late_opO {late:List Nat}(h:lateOkO l p As late=true){i:Nat}(hi:i∈late):i<p∧∃d op ty pos after,l[i]?=some ⟨some d,op,ty,pos,after,none⟩∧lateOpO op=true:=by
 unfold lateOkO at h
 rw [Bool.and_eq_true]at h
 have:=List.all_eq_true.1 h.1 i hi
 rw [Bool.and_eq_true]at this
 obtain⟨h1,h2⟩:=this
 refine⟨by simpa using h1,?_⟩
 split at h2
 ·rename_i d x ty pos after hl
  exact⟨d,_,ty,pos,after,hl,rfl⟩
 ·rename_i d x k ty pos after hl
  exact⟨d,_,ty,pos,after,hl,rfl⟩
 ·rename_i d o1 o2 o3 o4 o5 ty pos after hl
  exact⟨d,_,ty,pos,after,hl,rfl⟩
 ·cases h2
theorem late_entO {op:Op}(h:lateOpO op=true){d:Nat}{E:List Entry}{n:Nat}{b:Blk}(he:entO P Γ st d op=some E):entO P Γ (.blk n b::st) d op=some E∧∃v,E=[.slot d v]:=by
 have hev:∀z,ev (.blk n b::st) z=ev st z:=fun z=>by cases z<;>rfl
 cases op with
 |move z=>
  have h1:some [Entry.slot d (ev st z)]=some E:=he
  have h2:entO P Γ (.blk n b::st) d (.move z)=some [Entry.slot d (ev (.blk n b::st) z)]:=rfl
  rw [h2,hev]
  exact⟨h1,_,by cases h1;rfl⟩
 |extract z k=>
  have h1:valL d (tupE k (ev st z))=some E:=he
  have h2:entO P Γ (.blk n b::st) d (.extract z k)=valL d (tupE k (ev (.blk n b::st) z)):=rfl
  rw [h2,hev]
  refine⟨h1,?_⟩
  cases hv:tupE k (ev st z)with
  |none=>rw [hv]at h1;cases h1
  |some v=>rw [hv]at h1;cases h1;exact⟨v,rfl⟩
 |binOp o t y z k=>
  have h1:valL d (binE P o t (ev st y) (ev st z))=some E:=he
  have h2:entO P Γ (.blk n b::st) d (.binOp o t y z k)=valL d (binE P o t (ev (.blk n b::st) y) (ev (.blk n b::st) z)):=rfl
  rw [h2,hev,hev]
  refine⟨h1,?_⟩
  cases hv:binE P o t (ev st y) (ev st z)with
  |none=>rw [hv]at h1;cases h1
  |some v=>rw [hv]at h1;cases h1;exact⟨v,rfl⟩
 |_=>cases h
theorem late_ancO {late:List Nat}(h:lateOkO l p As late=true){j:Nat}(hj:j<p)(hn:j∉late):j∈ancO As p:=by
 unfold lateOkO at h
 rw [Bool.and_eq_true]at h
 have:=List.all_eq_true.1 h.2 j (List.mem_range.2 hj)
 simp only [Bool.or_eq_true]at this
 rcases this with h1|h1
 ·exact absurd (by simpa using h1) hn
 ·simpa using h1
theorem draw_lateO (hΓ:GSound P Γ)(h:chk l (p+1) As=true)(hS:Steps' P Γ N l p As st0 Es){late:List Nat}(hl:lateOkO l p As late=true)
  {t:TypeId} {x y:Operand} {ty:TypeId} {pos:String} {after:Array Edge} (hop:l[p]?=some ⟨none,.store t x y,ty,pos,after,none⟩) {n:Nat} {b:Blk} (hst:storeL P (pickE' Es 0 (inL (ancO As p)) st0) t x y=some (n,b))
  (hT:∀a w,R γ0 w0 N (.blk n b::pickE' Es 0 (fun _=>true) st0) a w→wpList P l.toArray Q (l.drop (p+1)) a w):
  ∀(fuel:Nat) (listed:Array Bool) (a:Act) (w:World),listed.size=l.length→Closed l listed→(∀i,L listed i=true→i≤p)→(List.range l.length).countP (fun i=>!L listed i)≤fuel→
   R γ0 w0 N (if L listed p=true then .blk n b::pickE' Es 0 (L listed) st0 else pickE' Es 0 (L listed) st0) a w→wpAny P .any l.toArray Q fuel listed a w:=by
 have hpl:p<l.length:=(gsS hop).1
 intro fuel
 induction fuel with
 |zero=>
  intro listed a w hs hc hlp hcnt hR
  have hall:∀i,i<l.length→L listed i=true:=fun i hi=>by
   have:=List.countP_eq_zero.1 (Nat.le_zero.1 hcnt) i (List.mem_range.2 hi)
   simpa using this
  have hpn:l.length=p+1:=by
   rcases Nat.lt_or_ge (p+1) l.length with h1|h1
   ·have:=hlp (p+1) (hall _ h1);omega
   ·omega
  refine draw_tail h 0 (p+1) listed a w hs (Nat.le_refl _) (by omega) (by omega) (fun i hi=>?_) (hT a w ?_)
  ·rw [hall i hi];simp;omega
  ·have key:pickE' Es 0 (L listed) st0=pickE' Es 0 (fun _=>true) st0:=pick_ext Es 0 (fun j hj=>hall (0+j) (by rw [hS.len]at hj;omega)) st0
   rw [if_pos (hall p hpl),key]at hR
   exact hR
 |succ fuel ih=>
  intro listed a w hs hc hlp hcnt hR
  by_cases hall:∀i,i≤p→L listed i=true
  ·refine draw_tail h (fuel+1) (p+1) listed a w hs (Nat.le_refl _) (by omega) ?_ (fun i hi=>?_) (hT a w ?_)
   ·have:l.length-(p+1)≤(List.range l.length).countP (fun i=>!L listed i):=by
     have h1:(List.range l.length).countP (fun i=>!L listed i)=(List.range l.length).countP (fun i=>decide (p+1≤i)):=List.countP_congr fun i hi=>by
      by_cases hip:i≤p
      ·simp [hall i hip];omega
      ·have:L listed i=false:=by
        cases hL:L listed i with
        |false=>rfl
        |true=>exact absurd (hlp i hL) hip
       simp [this];omega
     rw [h1]
     exact count_ge l.length (p+1)
    omega
   ·by_cases hip:i≤p
    ·rw [hall i hip];simp;omega
    ·have:L listed i=false:=by
      cases hL:L listed i with
      |false=>rfl
      |true=>exact absurd (hlp i hL) hip
     rw [this];simp;omega
   ·have key:pickE' Es 0 (L listed) st0=pickE' Es 0 (fun _=>true) st0:=pick_ext Es 0 (fun j hj=>hall (0+j) (by rw [hS.len]at hj;omega)) st0
    rw [if_pos (hall p (Nat.le_refl _)),key]at hR
    exact hR
  ·refine⟨fun hr=>?_,fun i hi=>?_⟩
   ·exfalso
    apply hall
    intro i
    induction i using Nat.strongRecOn with
    |_ i ih2=>
     intro hip
     cases hL:L listed i with
     |true=>rfl
     |false=>
      have hlt:i<l.length:=by omega
      have hok:l[i]?=some l[i]:=gsE hlt
      have:=ready_of hs hok hL (fun k hk=>by
       have h1:=chk_dir h hok k hk
       exact ih2 k h1 (by omega))
      rw [hr]at this
      cases this
   ·obtain⟨o,h1,h2,h3⟩:=ready_spec hs hi
    have hlt:=(gsS h1).1
    have hanc:=closed_anc h hc i o h1 h3
    have hset:∀j,L (listed.setIfInBounds i true) j=if i=j then true else L listed j:=L_set (by omega)
    have hip:i≤p:=by
     rcases Nat.lt_or_ge p i with h4|h4
     ·exfalso
      exact hall fun j hj=>hanc j (chk_tail h h1 (by omega) j (by omega))
     ·exact h4
    have hle:∀j,inL (ancO As i) j=true→L listed j=true:=fun j hj=>hanc j (by unfold inL at hj;simpa using hj)
    have hlook:=look_pick hpl h hS hc h1 hip h2 h3
    have hcl:Closed l (listed.setIfInBounds i true):=fun j o' hj hL k hk=>by
     rw [hset]at hL⊢
     by_cases e:i=j
     ·subst e
      rw [h1]at hj
      cases hj
      split
      ·rfl
      ·exact h3 k hk
     ·rw [if_neg e]at hL
      split
      ·rfl
      ·exact hc j o' hj hL k hk
    have hbd:∀j,L (listed.setIfInBounds i true) j=true→j≤p:=fun j hL=>by
     rw [hset]at hL
     by_cases e:i=j
     ·omega
     ·rw [if_neg e]at hL
      exact hlp j hL
    have hct:(List.range l.length).countP (fun j=>!L (listed.setIfInBounds i true) j)≤fuel:=by
     have:=count_set (fun j=>!L listed j) (fun j=>!L (listed.setIfInBounds i true) j) i (by simp [h2]) (by simp [hset]) (fun j hj=>by simp only [hset,if_neg (fun e:i=j=>hj e.symm)]) (List.range l.length) List.nodup_range (List.mem_range.2 hlt)
     omega
    by_cases hpi:i=p
    · --the store
     subst hpi
     rw [hop]at h1
     cases h1
     rw [if_neg (by rw [h2];simp)]at hR
     have hev:∀z∈(Op.store t x y).operands.toList,ev (pickE' Es 0 (inL (ancO As i)) st0) z=ev (pickE' Es 0 (L listed) st0) z:=fun z hz=>by
      cases z with
      |tmp s=>exact hlook s (by unfold Oper.looksAt;exact List.mem_append_left _ (List.mem_filterMap.2 ⟨.tmp s,hz,rfl⟩))
      |const v=>rfl
      |global g=>rfl
      |func f=>rfl
     have hst':=storeL_mono (pick_le hS hle) (hev x (by simp [Op.operands])) (hev y (by simp [Op.operands])) hst
     have hE:=storeL_E hst'
     unfold wpOp
     have hget:l.toArray[i]?=some ⟨none,.store t x y,ty,pos,after,none⟩:=by simpa using hop
     rw [hget]
     simp only
     obtain⟨η,γ,hI⟩:=id hR
     rw [wantO_sound hI (o:=⟨none,.store t x y,ty,pos,after,none⟩) (b:=true) rfl,if_pos rfl]
     left
     refine stepO_sound (o:=⟨none,.store t x y,ty,pos,after,none⟩) (st':=.blk n b::pickE' Es 0 (L listed) st0) hΓ hR hE fun a' w' hR'=>?_
     refine ih _ a' w' (by simpa using hs) hcl hbd hct ?_
     rw [hset,if_pos rfl,if_pos rfl]
     have e1:∀(j:Nat) (E:List Entry),Es[j]?=some E→L listed j=L (listed.setIfInBounds i true) j:=fun j E hj=>by
      have:=(gsS hj).1
      rw [hS.len]at this
      rw [hset,if_neg (by omega)]
     exact hR'.congr (fun s=>by
      show getS (pickE' Es 0 (L listed) st0) s=getS (pickE' Es 0 _ st0) s
      exact pick_congr hS.dist fun j E hj _=>e1 j E hj) (fun m=>by
      show(if n=m then some b else getB (pickE' Es 0 (L listed) st0) m)=(if n=m then some b else getB (pickE' Es 0 _ st0) m)
      rw [pick_congrB hS.dist fun j E hj _=>e1 j E hj])
    ·have hip':i<p:=by omega
     have hEi:Es[i]?=some (Es[i]'(by rw [hS.len];exact hip')):=gsE _
     obtain⟨d,hd,hN,hod,hent⟩:=hS.step i o _ h1 hEi
     generalize Es[i]'(by rw [hS.len];exact hip')=E at hEi hod hent
     have hent':=entG_mono (ops:=l.toArray) (pick_le hS hle) hlook hent
     obtain⟨g1,g2⟩:=pick_add hS (S:=L listed) (S':=L (listed.setIfInBounds i true)) hEi hset
     have hLp:L (listed.setIfInBounds i true) p=L listed p:=by rw [hset,if_neg hpi]
     cases hp:L listed p with
     |false=>
      rw [if_neg (by rw [hp];simp)]at hR
      have hfree:∀n,hasB E n=true→getB (pickE' Es 0 (L listed) st0) n=none:=fun n hn=>by
       rw [pick_B_none Es 0 (L listed) st0 hS.dist (fun j E' hj hL=>by
        by_cases e:i=j
        ·subst e;rw [Nat.zero_add,h2]at hL;cases hL
        ·exact(distinct_ne hS.dist hEi hj e).2 n hn)]
       exact hS.free E (List.mem_of_getElem? hEi) n hn
      refine entG_step hΓ hd hN hent' hfree h1 hR fun a' w' hR'=>?_
      refine ih _ a' w' (by simpa using hs) hcl hbd hct ?_
      rw [hLp,hp,if_neg (by simp)]
      exact hR'.congr g1 g2
     |true=>
      rw [if_pos hp]at hR
      have hil:i∈late:=by
       by_cases hn:i∈late
       ·exact hn
       ·exfalso
        have:=closed_anc h hc p _ hop (hc p _ hop hp) i (late_ancO hl hip' hn)
        rw [h2]at this
        cases this
      obtain⟨_,d1,op1,ty1,pos1,after1,h4,h5⟩:=late_opO hl hil
      rw [h4]at h1
      cases h1
      obtain⟨hent2,v,hE1⟩:=late_entO (n:=n) (b:=b) h5 (show entO P Γ (pickE' Es 0 (L listed) st0) d1 op1=some E from hent')
      subst hE1
      have hent3:entG P Γ l.toArray (.blk n b::pickE' Es 0 (L listed) st0) ⟨some d1,op1,ty1,pos1,after1,none⟩=some [.slot d1 v]:=hent2
      have hfree:∀m,hasB [Entry.slot d1 v] m=true→getB (.blk n b::pickE' Es 0 (L listed) st0) m=none:=fun m hm=>by
       simp [hasB]at hm
      refine entG_step hΓ hd hN hent3 hfree h4 hR fun a' w' hR'=>?_
      refine ih _ a' w' (by simpa using hs) hcl hbd hct ?_
      rw [hLp,hp,if_pos rfl]
      refine hR'.congr (fun s=>?_) (fun m=>?_)
      ·exact g1 s
      have:=g2 m
      show(if n=m then some b else getB (pickE' Es 0 (L listed) st0) m)=(if n=m then some b else getB (pickE' Es 0 _ st0) m)
      rw [show getB (pickE' Es 0 (L listed) st0) m=_ from this]
theorem W.lateO (hm:P.follows .mixedOrders=true)(hΓ:GSound P Γ){id:Nat}(p:Nat)(As:List (List Nat))(late:List Nat){rest:List Oper}{t:TypeId}{x y:Operand}{ty:TypeId}{pos:String}{after:Array Edge}{n:Nat}{b:Blk}(h:chk l (p+1) As=true)(hl:lateOkO l p As late=true)
  (hf:FlowT P Γ N l.toArray As st0 0 l [] Es (⟨none,.store t x y,ty,pos,after,none⟩::rest)) (hp:p+1+rest.length=l.length) (hd:distB Es=true) (hfr:freeB st0 Es=true)
  (hst:storeL P (pickE' Es 0 (inL (ancO As p)) st0) t x y=some (n,b)) (hT:WL P γ0 w0 N l.toArray rest (.blk n b::pickE' Es 0 (fun _=>true) st0) Q):W P γ0 w0 N st0 (.region id l.toArray true) Q:=fun a w hR=>by
 obtain⟨pre,hpre,h1⟩:=flowT_split hf
 have hpl:pre.length=p:=by rw [hpre,List.length_append,List.length_cons]at hp;omega
 have hop:l[p]?=some ⟨none,.store t x y,ty,pos,after,none⟩:=by
  rw [hpre,←hpl,List.getElem?_append_right (Nat.le_refl _),Nat.sub_self]
  rfl
 have hdrop:l.drop (p+1)=rest:=by
  rw [hpre,←hpl,List.drop_append,List.drop_of_length_le (by omega),List.nil_append,Nat.add_sub_cancel_left]
  rfl
 obtain⟨g1,g2⟩:=flow_steps h h1 rfl (fun k o hk=>by
  rw [hpre,Nat.zero_add,List.getElem?_append_left (gsS hk).1]
  exact hk) (fun k o E _ hE=>by simp at hE)
 have hS:Steps' P Γ N l p As st0 Es:=⟨by rw [g1,hpl,Nat.zero_add],dist_of hd,free_of hfr,fun i o E hi hE=>g2 i o E hi hE⟩
 refine wp_region_any hm ?_
 obtain⟨η,γ,hI⟩:=hR
 have hR':R γ0 w0 N st0 a w.drew:=⟨η,γ,hI.world w.drew rfl rfl rfl rfl⟩
 have hL0:∀i,L (Array.replicate l.toArray.size false) i=false:=fun i=>by
  unfold L
  simp only [Array.getD_eq_getD_getElem?,Array.getElem?_replicate]
  split<;>rfl
 have hpick:pickE' Es 0 (L (Array.replicate l.toArray.size false)) st0=st0:=pick_none Es 0 (fun j=>hL0 _) st0
 refine draw_lateO hΓ h hS hl hop hst (fun a w hR=>by rw [hdrop];exact hT a w hR) _ _ a w.drew (by simp) (fun i o _ hL=>by rw [hL0]at hL;cases hL) (fun i hL=>by rw [hL0]at hL;cases hL) ?_ (by rw [hL0,if_neg (by simp),hpick];exact hR')
 simp only [hL0]
 simp
end
section
variable {Γ:Models}{γ0:Nat→Option Nat}{w0:World}{N:Nat}{st1:St}{Q:Exit→Act→World→Prop}
theorem W.lateOA (hΓ:GSound Tryz.prog Γ){id:Nat}{l rest:List Oper}{st0 stA:St}(p:Nat)(As:List (List Nat))(late:List Nat){Es:List (List Entry)}{t:TypeId}{x y:Operand}{ty:TypeId}{pos:String}{after:Array Edge}{n:Nat}{b:Blk}(h:chk l (p+1) As=true)(hl:lateOkO l p As late=true)
  (hf:FlowT Tryz.prog Γ N l.toArray As st0 0 l [] Es (⟨none,.store t x y,ty,pos,after,none⟩::rest)) (hp:p+1+rest.length=l.length) (hd:distB Es=true) (hfr:freeB st0 Es=true)
  (hA:pickE' Es 0 (inL (ancO As p)) st0=stA) (hst:storeL Tryz.prog stA t x y=some (n,b)) (hst1:.blk n b::pickE' Es 0 (fun _=>true) st0=st1) (hT:WL Tryz.prog γ0 w0 N l.toArray rest st1 Q):W Tryz.prog γ0 w0 N st0 (.region id l.toArray true) Q:=
 W.lateO follows_mixed hΓ p As late h hl hf hp hd hfr (by rw [hA];exact hst) (by rw [hst1];exact hT)
theorem W.lateOB (hΓ:GSound Tryz.prog Γ){id:Nat}{l rest:List Oper}{st0 stA:St}(p:Nat)(As:List (List Nat))(late:List Nat){Es:List (List Entry)}{t:TypeId}{x y:Operand}{ty:TypeId}{pos:String}{after:Array Edge}{n:Nat}{b:Blk}
  (hT:WL Tryz.prog γ0 w0 N l.toArray rest st1 Q) (h:chk l (p+1) As=true:=by kernel_rfl) (hl:lateOkO l p As late=true:=by kernel_rfl)
  (hf:FlowT Tryz.prog Γ N l.toArray As st0 0 l [] Es (⟨none,.store t x y,ty,pos,after,none⟩::rest):=by(repeat(first|refine FlowT.opA (h:=?_)|refine FlowT.opX (h:=?_)|refine FlowT.opY (h:=?_)|refine FlowT.opZ (h:=?_)));exact FlowT.done)
  (hp:p+1+rest.length=l.length:=by rfl) (hd:distB Es=true:=by rfl) (hfr:freeB st0 Es=true:=by rfl)
  (hA:pickE' Es 0 (inL (ancO As p)) st0=stA:=by simp (disch:=decide) only [pick_nil,pick_t,pick_f,List.cons_append,List.nil_append,Nat.reduceAdd];rfl) (hst:storeL Tryz.prog stA t x y=some (n,b):=by unfold storeL;exact evxP)
  (hst1:.blk n b::pickE' Es 0 (fun _=>true) st0=st1:=by simp only [pick_nil,pick_all,List.cons_append,List.nil_append];rfl):W Tryz.prog γ0 w0 N st0 (.region id l.toArray true) Q:=W.lateOA hΓ p As late h hl hf hp hd hfr hA hst hst1 hT
end
end
end Go.Proofs.YtfgkfcfplodaoaaGreatDoor
