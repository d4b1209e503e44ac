/-
  Put together out of 2 texts.
-/
import Derived.Test.YtfgkfcfplodaoaaGreatDoorHPEvTy
import Derived.Test.YtfgkfcfplodaoaaGreatDoorHPEv4
import Derived.LaidMore
import Derived.OpenShut
import Derived.ChangeVars
import Derived.Stop.Joined
set_option linter.unusedSimpArgs false
set_option linter.unusedVariables false
set_option maxRecDepth 100000
namespace Go.Proofs.YtfgkfcfplodaoaaGreatDoor
section
open Go Go.RowKit
def look:List (FuncId×(List Arg→Option Res))→Models
 |[],_=>none
 |p::r,f=>if p.1=f then some p.2 else look r f
theorem look_hit (f:FuncId)(m:List Arg→Option Res)(r:List (FuncId×(List Arg→Option Res))):look ((f,m)::r) f=some m:=if_pos rfl
theorem look_miss {g f:Nat}(h:g≠f)(m:List Arg→Option Res)(r:List (FuncId×(List Arg→Option Res))):look ((g,m)::r) f=look r f:=if_neg h
theorem env_nil {P:Program}:GSound P (look []):=fun f m h=>by cases h
theorem env_cons {P:Program}{f:FuncId}{m:List Arg→Option Res}{r:List (FuncId×(List Arg→Option Res))}(hh:Has P f)(hs:Sound P f m)(hr:GSound P (look r)):GSound P (look ((f,m)::r)):=fun g n h=>by
 unfold look at h
 split at h
 ·rename_i e
  cases h
  cases e
  exact⟨hh,hs⟩
 ·exact hr g n h
section
variable {P:Program}{Γ:Models}{γ0:Nat→Option Nat}{w0:World}{N:Nat}{st st1:St}{Q:Exit→Act→World→Prop}{x y c:Code}
theorem pick_nil (i:Nat)(S:Nat→Bool)(st:St):pickE' [] i S st=st:=rfl
theorem pick_t {E:List Entry}{r:List (List Entry)}{i:Nat}{S:Nat→Bool}(h:S i=true)(st:St):pickE' (E::r) i S st=pickE' r (i+1) S (E++st):=by
 show pickE' r (i+1) S (if S i=true then E++st else st)=_
 rw [if_pos h]
theorem pick_f {E:List Entry}{r:List (List Entry)}{i:Nat}{S:Nat→Bool}(h:S i=false)(st:St):pickE' (E::r) i S st=pickE' r (i+1) S st:=by
 show pickE' r (i+1) S (if S i=true then E++st else st)=_
 rw [if_neg (by simp [h])]
theorem pick_all {E:List Entry}{r:List (List Entry)}{i:Nat}(st:St):pickE' (E::r) i (fun _=>true) st=pickE' r (i+1) (fun _=>true) (E++st):=pick_t rfl st
end
theorem evsP {α:Type}{a b:α}(h:a=b:=by simp (config := { maxSteps := 1000000 }) (disch:=first|assumption|omega) only [TY,ar_u64,binE,eqCells,eqVal,eqOp,step_mk,makeE,List.toList_toArray,Value.oneCell',step_fnv,step_makeFunc,ev_func,callV,cells_agg,cells_int,cells_bool,cells_str,cells_sl,List.size_toArray,flatB_nil,flatB_cons,wid_nil,wid_cons,rowsF_len,rowsF_flat,rowsF_app,step_build,buildE,fillE,indexSlE,indexArrE,shiftE,indexArrV,indexStE,step_move,step_assign,step_pick,step_load,step_nilCheck,step_binOp,step_unOp,step_convert,step_slice,step_fieldAddr,step_field,step_indexAddr,step_index,step_extract,step_len,step_min,step_max,step_alloc,step_box,step_lit,step_app,step_fn,step_store,putV_some,getS_hit,getS_miss,getS_blk,getS_kill,getS_nil,getB_nil,getB_slot,getB_hit,getB_miss,getB_kill0,getB_kill1,ev_tmp,ev_int,ev_bool,ev_str,ev_nil,ev_agg,cl_int,cl_bool,cl_str,cl_nil,loadE,loadV,fieldAddrE,fieldE,partV,indexAddrE,lenE,lenO,strIdx,indexE,boundE,subE,sliceE,convE,minE,scal,nilE,tupE,capsE,optE,pickE,pbin,pint,pstr,pun,ar_in,ar_u32,ar_u8,allocE,boxE,litE,rowsO,leafO,leafsO,frz,clr,rowsOf,flB,Fl.and,Fl.nst,Fl.ok,Fl.isFl,noRef,nstOk,flatAt,hasAll,absL,appN,Fl.isNd,asN,storeN,Nat.reduceBNe,destOf,appE,storeE,argO,argsO,boxesO,callG,callE,impE,pvR,pvs,pvRL,pvT,owns,ownsT,ownsR,clrL,withB,PV.kill,PL.kill,PL.names,Blk.kill,PL.live,toPL,resV,resO,compsO,compO,rlsO,rlO,toRes,Leaf.isSc,List.map_cons,List.map_nil,List.all_cons,List.all_nil,List.length_cons,List.length_nil,List.drop_zero,List.drop_succ_cons,List.take_succ_cons,List.take_zero,List.drop_nil,List.take_nil,List.getElem?_cons_zero,List.getElem?_cons_succ,List.getElem?_nil,Option.map_some,Option.map_none,Option.bind_some,Option.isSome_some,Option.isSome_none,List.cons_append,List.nil_append,List.append_nil,if_true,if_false,reduceIte,Nat.reduceLT,Nat.reduceBEq,Nat.reduceLeDiff,Nat.reduceEqDiff,Nat.reduceAdd,Nat.reduceMul,Nat.zero_add,Nat.add_zero,Nat.mul_one,Int.reduceToNat,Bool.and_true,Bool.true_and,Bool.false_and,Bool.and_false,Bool.not_true,Bool.not_false,Bool.false_eq_true,decide_true,decide_false,and_self,and_true,true_and,or_true,true_or,or_false,false_or,if_pos,if_neg,Int.toNat_natCast,decide_eq_true,decide_eq_false,look_hit,look_miss,Int.ofNat_eq_natCast,Bool.or_false,Bool.or_true,Bool.true_or,Bool.false_or,Bool.not_eq_true,beq_self_eq_true,ne_eq,not_false_eq_true,not_true_eq_false,eq_self, *]<;>rfl):a=b:=h
theorem evxP {α:Type}{a b:α}(h:a=b:=by simp (config := { maxSteps := 1000000 }) (disch:=first|assumption|omega) only [TY,ar_u64,binE,eqCells,eqVal,eqOp,step_mk,makeE,List.toList_toArray,Value.oneCell',step_fnv,step_makeFunc,ev_func,callV,cells_agg,cells_int,cells_bool,cells_str,cells_sl,List.size_toArray,flatB_nil,flatB_cons,wid_nil,wid_cons,rowsF_len,rowsF_flat,rowsF_app,step_build,buildE,fillE,indexSlE,indexArrE,shiftE,indexArrV,indexStE,step_move,step_assign,step_pick,step_load,step_nilCheck,step_binOp,step_unOp,step_convert,step_slice,step_fieldAddr,step_field,step_indexAddr,step_index,step_extract,step_len,step_min,step_max,step_alloc,step_box,step_lit,step_app,step_fn,step_store,putV_some,getS_hit,getS_miss,getS_blk,getS_kill,getS_nil,getB_nil,getB_slot,getB_hit,getB_miss,getB_kill0,getB_kill1,ev_tmp,ev_int,ev_bool,ev_str,ev_nil,ev_agg,cl_int,cl_bool,cl_str,cl_nil,loadE,loadV,fieldAddrE,fieldE,partV,indexAddrE,lenE,lenO,strIdx,indexE,boundE,subE,sliceE,convE,minE,scal,nilE,tupE,capsE,optE,pickE,pbin,pint,pstr,pun,ar_in,ar_u32,ar_u8,allocE,boxE,litE,rowsO,leafO,leafsO,frz,clr,rowsOf,flB,Fl.and,Fl.nst,Fl.ok,Fl.isFl,noRef,nstOk,flatAt,hasAll,absL,appN,Fl.isNd,asN,storeN,Nat.reduceBNe,destOf,appE,storeE,argO,argsO,boxesO,callG,callE,impE,pvR,pvs,pvRL,pvT,owns,ownsT,ownsR,clrL,withB,PV.kill,PL.kill,PL.names,Blk.kill,PL.live,toPL,resV,resO,compsO,compO,rlsO,rlO,toRes,Leaf.isSc,List.map_cons,List.map_nil,List.all_cons,List.all_nil,List.length_cons,List.length_nil,List.drop_zero,List.drop_succ_cons,List.take_succ_cons,List.take_zero,List.drop_nil,List.take_nil,List.getElem?_cons_zero,List.getElem?_cons_succ,List.getElem?_nil,Option.map_some,Option.map_none,Option.bind_some,Option.isSome_some,Option.isSome_none,List.cons_append,List.nil_append,List.append_nil,if_true,if_false,reduceIte,Nat.reduceLT,Nat.reduceBEq,Nat.reduceLeDiff,Nat.reduceEqDiff,Nat.reduceAdd,Nat.reduceMul,Nat.zero_add,Nat.add_zero,Nat.mul_one,Int.reduceToNat,Bool.and_true,Bool.true_and,Bool.false_and,Bool.and_false,Bool.not_true,Bool.not_false,Bool.false_eq_true,decide_true,decide_false,and_self,and_true,true_and,or_true,true_or,or_false,false_or,if_pos,if_neg,Int.toNat_natCast,decide_eq_true,decide_eq_false,look_hit,look_miss,Int.ofNat_eq_natCast,Bool.or_false,Bool.or_true,Bool.true_or,Bool.false_or,Bool.not_eq_true,beq_self_eq_true,ne_eq,not_false_eq_true,not_true_eq_false,eq_self,ent_move,ent_assign,ent_pick,ent_load,ent_nilCheck,ent_binOp,ent_unOp,ent_convert,ent_slice,ent_fieldAddr,ent_field,ent_indexAddr,ent_index,ent_extract,ent_len,ent_min,ent_max,ent_alloc,ent_box,ent_lit,ent_build,ent_fn,ent_mk,makeL,ent_makeFunc,valL_some,allocL,boxL,litL,callL,blkL,noRef, *]<;>rfl):a=b:=h
theorem subP {st st':St}(h:Sub st st':=by simp (disch:=omega) only [Sub,SubL,getS_hit,getS_miss,getS_blk,getS_kill,getS_nil,getB_nil,getB_slot,getB_hit,getB_miss,getB_kill0,getB_kill1,lsNms,vsNms,PL.nms,PV.nms,Blk.nms,bound,PV.kill,PL.kill,PL.names,List.append_nil,List.nil_append,List.cons_append,and_true,true_and,and_self, *]<;>(repeat' apply And.intro)<;>rfl):Sub st st':=h
class Nx (a:Prop) (b:outParam Prop):Prop where
 go:b→a
theorem zN {a b:Prop}[h:Nx a b](hb:b):a:=h.go hb
section
variable {P:Program}{γ0:Nat→Option Nat}{w0:World}{N:Nat}{st:St}{Q:Exit→Act→World→Prop}{X:Act→World→Prop}{x y c:Code}{i:Nat}
instance :Nx (W P γ0 w0 N st (.seq x y) Q) (W P γ0 w0 N st x (Exit.then (y.wp P Q) Q)):=⟨W.seq⟩
instance :Nx (W P γ0 w0 N st (.block i c) Q) (W P γ0 w0 N st c (Exit.inBlock i Q)):=⟨W.block⟩
instance :Nx (W P γ0 w0 N st .skip Q) (At γ0 w0 N st .normal Q):=⟨W.skip⟩
instance :Nx (W P γ0 w0 N st (.exit i) Q) (At γ0 w0 N st (.exit i) Q):=⟨W.exit⟩
instance :Nx (W P γ0 w0 N st .ret Q) (At γ0 w0 N st .ret Q):=⟨W.ret⟩
instance :Nx (At γ0 w0 N st .normal (Exit.then (y.wp P Q) Q)) (W P γ0 w0 N st y Q):=⟨At.seqN⟩
instance :Nx (At γ0 w0 N st .normal (Exit.inBlock i Q)) (At γ0 w0 N st .normal Q):=⟨At.blkN⟩
instance :Nx (At γ0 w0 N st .ret (Exit.inBlock i Q)) (At γ0 w0 N st .ret Q):=⟨At.blkR⟩
instance :Nx (At γ0 w0 N st (.exit i) (Exit.then X Q)) (At γ0 w0 N st (.exit i) Q):=⟨At.thenX⟩
instance :Nx (At γ0 w0 N st .ret (Exit.then X Q)) (At γ0 w0 N st .ret Q):=⟨At.thenR⟩
end
section
variable {Γ:Models}{γ0:Nat→Option Nat}{w0:World}{N:Nat}{st st1:St}{Q:Exit→Act→World→Prop}{x y c:Code}
theorem WL.opX {ops:Array Oper}{r:List Oper}{dst:Option Tmp}{op:Op}{ty:TypeId}{pos:String}{after:Array Edge}{j d0:Nat}{want:Bool}(hΓ:GSound Tryz.prog Γ)
  (hd:(ops[j]?).bind (·.dst)=some d0:=by rfl) (hs:getS st d0=one (.sc (.bool want)):=by exact evsP)
  (he:stepO Tryz.prog Γ N st dst op=some st1:=by exact evsP) (h:WL Tryz.prog γ0 w0 N ops r st1 Q):WL Tryz.prog γ0 w0 N ops (⟨dst,op,ty,pos,after,some (j,want)⟩::r) st Q:=
 WL.opG hΓ (by rw [want_of hd hs];simp) he h
theorem WL.opY {ops:Array Oper}{r:List Oper}{d:Nat}{op:Op}{ty:TypeId}{pos:String}{after:Array Edge}{j d0:Nat}{want b:Bool}
  (hd:(ops[j]?).bind (·.dst)=some d0:=by rfl) (hs:getS st d0=one (.sc (.bool b)):=by exact evsP) (hb:(b==want)=false:=by rfl) (hN:d<N:=by decide)
  (h:WL Tryz.prog γ0 w0 N ops r (.slot d (one .udf)::st) Q):WL Tryz.prog γ0 w0 N ops (⟨some d,op,ty,pos,after,some (j,want)⟩::r) st Q:=
 WL.opF (by rw [want_of hd hs,hb]) hN h
theorem WL.opZ {ops:Array Oper}{r:List Oper}{d:Nat}{op:Op}{ty:TypeId}{pos:String}{after:Array Edge}{j d0:Nat}{want:Bool}
  (hd:(ops[j]?).bind (·.dst)=some d0:=by rfl) (hs:getS st d0=one .udf:=by exact evsP) (hN:d<N:=by decide)
  (h:WL Tryz.prog γ0 w0 N ops r (.slot d (one .udf)::st) Q):WL Tryz.prog γ0 w0 N ops (⟨some d,op,ty,pos,after,some (j,want)⟩::r) st Q:=
 WL.opF (want_udf hd hs) hN h
theorem W.condA {o:Operand}{b:Bool}(he:ev st o=one (.sc (.bool b)):=by exact evsP)(h1:b=true→W Tryz.prog γ0 w0 N st x Q)(h2:b=false→W Tryz.prog γ0 w0 N st y Q):W Tryz.prog γ0 w0 N st (.cond o x y) Q:=W.cond2 he h1 h2
theorem At.retA {fn:Func}{r r':Res}{l:List ResultVar}(hl:fn.results.toList=l)(hr:resO Tryz.prog st l=some r':=by simp only [resO,compsO,resV];exact evsP)(hL:apart (ownC Tryz.prog st 0 l)=true:=by simp only [ownC,resV];exact evsP)(he:r'=r):
  At none0 w0 N st .ret (bodyPost Tryz.prog fn (Post w0 r)):=by
 subst hl
 exact At.ret (he▸hr) hL
theorem zO {id:Nat}{l:List Oper}(h:WL Tryz.prog γ0 w0 N l.toArray l st Q):W Tryz.prog γ0 w0 N st (.region id l.toArray false) Q:=W.ops h
theorem zE {ops:Array Oper}(h:At γ0 w0 N st .normal Q):WL Tryz.prog γ0 w0 N ops [] st Q:=WL.nil h
theorem za {ops:Array Oper}{r:List Oper}{dst:Option Tmp}{op:Op}{ty:TypeId}{pos:String}{after:Array Edge}(hΓ:GSound Tryz.prog Γ)(h:WL Tryz.prog γ0 w0 N ops r st1 Q)
  (he:stepO Tryz.prog Γ N st dst op=some st1:=by exact evsP):WL Tryz.prog γ0 w0 N ops (⟨dst,op,ty,pos,after,none⟩::r) st Q:=WL.op hΓ he h
theorem zb {ops:Array Oper}{r:List Oper}{dst:Option Tmp}{op:Op}{ty:TypeId}{pos:String}{after:Array Edge}{j d0:Nat}{want:Bool}(hΓ:GSound Tryz.prog Γ)(h:WL Tryz.prog γ0 w0 N ops r st1 Q)
  (hd:(ops[j]?).bind (·.dst)=some d0:=by rfl) (hs:getS st d0=one (.sc (.bool want)):=by exact evsP) (he:stepO Tryz.prog Γ N st dst op=some st1:=by exact evsP):WL Tryz.prog γ0 w0 N ops (⟨dst,op,ty,pos,after,some (j,want)⟩::r) st Q:=WL.opX hΓ hd hs he h
theorem zc {ops:Array Oper}{r:List Oper}{d:Nat}{op:Op}{ty:TypeId}{pos:String}{after:Array Edge}{j d0:Nat}{want b:Bool}(h:WL Tryz.prog γ0 w0 N ops r (.slot d (one .udf)::st) Q)
  (hd:(ops[j]?).bind (·.dst)=some d0:=by rfl) (hs:getS st d0=one (.sc (.bool b)):=by exact evsP) (hb:(b==want)=false:=by rfl) (hN:d<N:=by decide):WL Tryz.prog γ0 w0 N ops (⟨some d,op,ty,pos,after,some (j,want)⟩::r) st Q:=WL.opY hd hs hb hN h
theorem zd {ops:Array Oper}{r:List Oper}{d:Nat}{op:Op}{ty:TypeId}{pos:String}{after:Array Edge}{j d0:Nat}{want:Bool}(h:WL Tryz.prog γ0 w0 N ops r (.slot d (one .udf)::st) Q)
  (hd:(ops[j]?).bind (·.dst)=some d0:=by rfl) (hs:getS st d0=one .udf:=by exact evsP) (hN:d<N:=by decide):WL Tryz.prog γ0 w0 N ops (⟨some d,op,ty,pos,after,some (j,want)⟩::r) st Q:=WL.opZ hd hs hN h
theorem zT {o:Operand}(h:W Tryz.prog γ0 w0 N st x Q)(he:ev st o=one (.sc (.bool true)):=by exact evsP):W Tryz.prog γ0 w0 N st (.cond o x y) Q:=W.cond he h
theorem zF {o:Operand}(h:W Tryz.prog γ0 w0 N st y Q)(he:ev st o=one (.sc (.bool false)):=by exact evsP):W Tryz.prog γ0 w0 N st (.cond o x y) Q:=W.cond he h
instance {i:Nat}:Nx (At γ0 w0 N st (.exit i) (Exit.inBlock i Q)) (At γ0 w0 N st .normal Q):=⟨At.blkE⟩
theorem W.loopA {ι:Type}(I:ι→Prop)(J:ι→St)(m:ι→Nat)(i0:ι)(h0:I i0)(hs:Sub (J i0) st:=by exact subP)
  (h:∀i,I i→W Tryz.prog γ0 w0 N (J i) c (Exit.then (Round I J m i γ0 w0 N) Q)):W Tryz.prog γ0 w0 N st (.loop c) Q:=W.loopI I J m i0 h0 hs h
theorem At.roundA {ι:Type}{I:ι→Prop}{J:ι→St}{m:ι→Nat}{i:ι}(i':ι)(hI:I i')(hm:m i'<m i)(hs:Sub (J i') st:=by exact subP):
  At γ0 w0 N st .normal (Exit.then (Round I J m i γ0 w0 N) Q):=At.roundI i' hI hm hs
theorem FlowT.opA {ops:Array Oper}{As:List (List Nat)}{st0 stA:St}{i d:Nat}{r rest:List Oper}{Es Es' F:List (List Entry)}{E:List Entry}{op:Op}{ty:TypeId}{pos:String}{after:Array Edge}
  (hA:pickE' Es 0 (inL (ancO As i)) st0=stA:=by simp (disch:=decide) only [pick_nil,pick_t,pick_f,List.cons_append,List.nil_append,Nat.reduceAdd];rfl) (hN:d<N:=by decide)
  (he:entO Tryz.prog Γ stA d op=some E:=by exact evxP) (ho:onlyS d E=true:=by rfl) (hE:Es++[E]=Es':=by simp only [List.cons_append,List.nil_append];rfl)
  (h:FlowT Tryz.prog Γ N ops As st0 (i+1) r Es' F rest):FlowT Tryz.prog Γ N ops As st0 i (⟨some d,op,ty,pos,after,none⟩::r) Es F rest:=
 FlowT.opN hA hN he ho (hE▸h)
theorem FlowT.opX {ops:Array Oper}{As:List (List Nat)}{st0 stA:St}{i d:Nat}{r rest:List Oper}{Es Es' F:List (List Entry)}{E:List Entry}{op:Op}{ty:TypeId}{pos:String}{after:Array Edge}{j d0:Nat}{want:Bool}
  (hA:pickE' Es 0 (inL (ancO As i)) st0=stA:=by simp (disch:=decide) only [pick_nil,pick_t,pick_f,List.cons_append,List.nil_append,Nat.reduceAdd];rfl) (hN:d<N:=by decide)
  (hd:(ops[j]?).bind (·.dst)=some d0:=by rfl) (hs:getS stA d0=one (.sc (.bool want)):=by exact evsP)
  (he:entO Tryz.prog Γ stA d op=some E:=by exact evxP) (ho:onlyS d E=true:=by rfl) (hE:Es++[E]=Es':=by simp only [List.cons_append,List.nil_append];rfl)
  (h:FlowT Tryz.prog Γ N ops As st0 (i+1) r Es' F rest):FlowT Tryz.prog Γ N ops As st0 i (⟨some d,op,ty,pos,after,some (j,want)⟩::r) Es F rest:=
 FlowT.opG hA hN (by rw [want_of hd hs];simp) he ho (hE▸h)
theorem FlowT.opY {ops:Array Oper}{As:List (List Nat)}{st0 stA:St}{i d:Nat}{r rest:List Oper}{Es Es' F:List (List Entry)}{op:Op}{ty:TypeId}{pos:String}{after:Array Edge}{j d0:Nat}{want b:Bool}
  (hA:pickE' Es 0 (inL (ancO As i)) st0=stA:=by simp (disch:=decide) only [pick_nil,pick_t,pick_f,List.cons_append,List.nil_append,Nat.reduceAdd];rfl) (hN:d<N:=by decide)
  (hd:(ops[j]?).bind (·.dst)=some d0:=by rfl) (hs:getS stA d0=one (.sc (.bool b)):=by exact evsP) (hb:(b==want)=false:=by rfl)
  (hE:Es++[[.slot d (one .udf)]]=Es':=by simp only [List.cons_append,List.nil_append];rfl)
  (h:FlowT Tryz.prog Γ N ops As st0 (i+1) r Es' F rest):FlowT Tryz.prog Γ N ops As st0 i (⟨some d,op,ty,pos,after,some (j,want)⟩::r) Es F rest:=
 FlowT.opF hA hN (by rw [want_of hd hs,hb]) (hE▸h)
theorem FlowT.opZ {ops:Array Oper}{As:List (List Nat)}{st0 stA:St}{i d:Nat}{r rest:List Oper}{Es Es' F:List (List Entry)}{op:Op}{ty:TypeId}{pos:String}{after:Array Edge}{j d0:Nat}{want:Bool}
  (hA:pickE' Es 0 (inL (ancO As i)) st0=stA:=by simp (disch:=decide) only [pick_nil,pick_t,pick_f,List.cons_append,List.nil_append,Nat.reduceAdd];rfl) (hN:d<N:=by decide)
  (hd:(ops[j]?).bind (·.dst)=some d0:=by rfl) (hs:getS stA d0=one .udf:=by exact evsP)
  (hE:Es++[[.slot d (one .udf)]]=Es':=by simp only [List.cons_append,List.nil_append];rfl)
  (h:FlowT Tryz.prog Γ N ops As st0 (i+1) r Es' F rest):FlowT Tryz.prog Γ N ops As st0 i (⟨some d,op,ty,pos,after,some (j,want)⟩::r) Es F rest:=
 FlowT.opF hA hN (want_udf hd hs) (hE▸h)
theorem follows_mixed:(Tryz.prog).follows .mixedOrders=true:=by kernel_rfl
theorem W.drawsA (hΓ:GSound Tryz.prog Γ){id:Nat}{l rest:List Oper}{st0:St}(p:Nat)(As:List (List Nat)){Es:List (List Entry)}(h:chk l p As=true)(hf:FlowT Tryz.prog Γ N l.toArray As st0 0 l [] Es rest)(hp:p+rest.length=l.length)(hd:distB Es=true)(hfr:freeB st0 Es=true)
  (hst:pickE' Es 0 (fun _=>true) st0=st1) (hT:WL Tryz.prog γ0 w0 N l.toArray rest st1 Q):W Tryz.prog γ0 w0 N st0 (.region id l.toArray true) Q:=
 W.drawsT follows_mixed hΓ p As h hf hp hd hfr (by rw [hst];exact hT)
theorem W.drawB (hΓ:GSound Tryz.prog Γ){id:Nat}{l rest:List Oper}{st0:St}(p:Nat)(As:List (List Nat)){Es:List (List Entry)}(hT:WL Tryz.prog γ0 w0 N l.toArray rest st1 Q)(h:chk l p As=true:=by kernel_rfl)
  (hf:FlowT Tryz.prog Γ N l.toArray As st0 0 l [] Es rest:=by(repeat(first|refine FlowT.opA (h:=?_)|refine FlowT.opX (h:=?_)|refine FlowT.opY (h:=?_)|refine FlowT.opZ (h:=?_)));exact FlowT.done) (hp:p+rest.length=l.length:=by rfl) (hd:distB Es=true:=by rfl) (hfr:freeB st0 Es=true:=by rfl)
  (hst:pickE' Es 0 (fun _=>true) st0=st1:=by simp only [pick_nil,pick_all,List.cons_append,List.nil_append];rfl):W Tryz.prog γ0 w0 N st0 (.region id l.toArray true) Q:=W.drawsA hΓ p As h hf hp hd hfr hst hT
end
theorem zR {a b:Prop}(hb:b)(hab:b→a:=by intro hq;(repeat(first|refine zN ?_|(refine zO ?_;(repeat(first|refine za hΓ ?_|refine zb hΓ ?_|refine zc ?_|refine zd ?_));refine zE ?_)|refine zT ?_|refine zF ?_|with_reducible apply At.blkX rfl));exact hq):a:=hab hb
theorem zL {a b:Prop}(hb:b)(hab:b→a:=by intro hq;(repeat(first|refine za hΓ ?_|refine zb hΓ ?_|refine zc ?_|refine zd ?_));exact hq):a:=hab hb
theorem zI {a b:Prop}(hb:b)(hab:b→a:=by intro hq;simp only [initS,argPV,List.map_cons,List.map_nil,toPL,Nat.zero_add];exact hq):a:=hab hb
theorem zV {a b:Prop}(hb:b)(hab:b→a:=by intro hq;(repeat(first|refine zN ?_|(refine zO ?_;(repeat(first|refine za hΓ ?_|refine zb hΓ ?_|refine zc ?_|refine zd ?_));refine zE ?_)|refine zT ?_|refine zF ?_|with_reducible apply At.blkX rfl));refine zO ?_;(repeat(first|refine za hΓ ?_|refine zb hΓ ?_|refine zc ?_|refine zd ?_));exact hq):a:=hab hb
theorem zQ {a b:Prop}(hb:b)(hab:b→a:=by intro hq;(repeat(first|refine za hΓ ?_|refine zb hΓ ?_|refine zc ?_|refine zd ?_));refine zE ?_;(repeat(first|refine zN ?_|(refine zO ?_;(repeat(first|refine za hΓ ?_|refine zb hΓ ?_|refine zc ?_|refine zd ?_));refine zE ?_)|refine zT ?_|refine zF ?_|with_reducible apply At.blkX rfl));exact hq):a:=hab hb
theorem zJ {a b:Prop}(hb:b)(hab:b→a:=by intro hq;simp only [initS,argPV,List.map_cons,List.map_nil,toPL,Nat.zero_add];(repeat(first|refine zN ?_|(refine zO ?_;(repeat(first|refine za hΓ ?_|refine zb hΓ ?_|refine zc ?_|refine zd ?_));refine zE ?_)|refine zT ?_|refine zF ?_|with_reducible apply At.blkX rfl));exact hq):a:=hab hb
theorem zM {a b:Prop}(hb:b)(hab:b→a:=by intro hq;(repeat(first|refine za hΓ ?_|refine zb hΓ ?_|refine zc ?_|refine zd ?_));refine zE ?_;exact hq):a:=hab hb
theorem zK {a b:Prop}(hb:b)(hab:b→a:=by intro hq;refine zO ?_;(repeat(first|refine za hΓ ?_|refine zb hΓ ?_|refine zc ?_|refine zd ?_));exact hq):a:=hab hb
theorem eN:GSound Tryz.prog (look []):=env_nil
end
section
open Go Go.RowKit Go.ChangeShapes Go.WideShapes Go.ChangeAt Go.Deep
theorem gSha:Tryz.prog.globalNamed "loop.example/g00946/impl.shaWords" =some 0:=by kernel_rfl
theorem tSha:(Tryz.prog.globals[0]?).map (·.type)=some 252:=by kernel_rfl
def laidL:List (String×DataW Unit):=[("loop.example/g00946/impl.shaWords",Rows.laid_loop_example_g00946_impl_shaWords)]
theorem door_met (os:Os)(args:Array Value):laidMetH Tryz.prog laidL ((World.doorLaid Tryz.prog 2000 os).forCall (fun _ _=>0) ⟨#[],args,[]⟩).memory:=
 laidMetH_of_parts3 (fuel:=8) (laidMet_of_run' 8 (by kernel_rfl) (by kernel_rfl)) (by kernel_rfl) (by kernel_rfl)
theorem shaD:(Rows.laid_loop_example_g00946_impl_shaWords:DataW Unit)=.agg (shaW.map fun(n:Nat)=>.lit (.int .u32 (n:Int))):=by kernel_rfl
theorem cellsU:Tryz.prog.cellsOf 231=1:=by kernel_rfl
theorem glob_of_laid {W:World}(h:laidMetH Tryz.prog laidL W):GlobOk none0 W:=by
 rw [MakeChecks.laidMetH_plain _ _ _ (by kernel_rfl)]at h
 obtain⟨ps,⟨g0,t0,cs0,f0,p0,q0,hg0,ht0,hv0,hd0,_⟩,_,_⟩:=h
 obtain rfl:=Option.some.inj (gSha.symm.trans hg0)
 obtain rfl:=Option.some.inj (tSha.symm.trans ht0)
 obtain⟨xs,m,rfl,hx,hlen,hn,hel⟩:=DataW.trod_array Tryz.underlying252 hd0
 have hx1:xs.map (·.1)=shaW.map fun(n:Nat)=>DataW.lit (.int .u32 (n:Int)):=by
  have h1:=(Prod.mk.inj hx).1
  rw [shaD]at h1
  injection h1 with h1
  exact h1.symm
 intro g cs hgc
 unfold globs at hgc
 split at hgc
 ·rename_i hg
  subst hg
  cases hgc
  have hcell:∀(j:Nat) (v:Value),(shaW.map fun(n:Nat)=>Value.int .u32 (n:Int))[j]?=some v→v.oneCell'=true∧W.cell? ⟨0,j,none⟩=some v:=by
   intro j v hj
   rw [List.getElem?_map]at hj
   obtain⟨n,hj1,rfl⟩:=oms hj
   refine⟨rfl,?_⟩
   have hj64:j<64:=(gsS hj1).1
   have hxj:(xs.map (·.1))[j]?=some (DataW.lit (.int .u32 (n:Int))):=by rw [hx1,List.getElem?_map,hj1];rfl
   rw [List.getElem?_map]at hxj
   obtain⟨x,hx2,hx3⟩:=oms hxj
   have he:=hel j hj64
   rw [cellsU,Nat.mul_one,hx2]at he
   obtain⟨k,e1,e2,_⟩:=DataW.trod_int Tryz.underlying231 he
   rw [e2]at hx3
   simp only [DataW.lit.injEq,Lit.int.injEq,true_and]at hx3
   subst hx3
   rw [World.var?_cell hg0 hv0 j]
   have h5:(cs0.toList.drop j)[0]?=some (.int .u32 (n:Int)):=by
    have h6:((cs0.toList.drop j).take 1)[0]?=some (Value.int .u32 (n:Int)):=by rw [e1];rfl
    rw [List.getElem?_take]at h6
    simpa using h6
   rw [List.getElem?_drop]at h5
   simpa using h5
  have h0:=(hcell 0 _ rfl).2
  refine⟨rfl,?_,hcell⟩
  unfold World.cell? at h0
  cases hh:W.heap[0]? with
  |none=>rw [hh]at h0;cases h0
  |some o=>exact heap_lt hh
 ·cases hgc
section
variable {H:Type}{enc:TypeId×Value→H}{P:Program}
theorem law_post1 {fn:Func}{sp:ChangeSpec}{tb:TypeId}{nm:String}(hbt:P.underlying tb=some .bool)(hres:fn.resultTypes= #[tb])(hvars:sp.vars=[nm])(hl:laidOutB P=true)
  (hr:∀t∈fn.params.toList,P.readableRec t=true∧t<P.types.size) (hg:∀g t,P.globalNamed nm=some g→(P.globals[g]?).map (·.type)=some t→P.readableRec t=true∧t<P.types.size) {W W':World} {args:Array Value} {ds gs:List (DataW H)} {before:List MemPlace}
  (hW:DataW.Whole enc P fn.params.toList sp.vars false W args.toList ds gs before)
  (hfn:(sp.fn H (ds++gs)).results=[.lit (.bool true)]∧(sp.fn H (ds++gs)).args=ds∧(sp.fn H (ds++gs)).vars=gs) (hb:Below W.heap.size W W'):
  sp.post enc P fn false true false false W args (.bool true) W':=by
 have hW':=hW
 obtain⟨p,q,hA,hV,rfl,_,_⟩:=hW
 have hlt:∀x∈p++q,x.block<W.heap.size:=fun x hx=>by simpa using hW'.lt x hx
 have hV1:=hV
 rw [hvars]at hV1
 obtain⟨g,t,cs,fuel,d,p',rfl,h1,h2,h3,h4,rfl⟩:=trodVars_one hV1
 obtain⟨r1,r2⟩:=hg g t h1 h2
 obtain⟨fuel',h4'⟩:=Below.trod (v:=.agg cs) hl r1 r2 ⟨fuel,h4⟩ hb (fun x hx=>hlt x (List.mem_append_right _ (List.mem_append_right _ hx)))
 have h3':W'.var? P nm=some cs:=by
  have hglt:g<W.heap.size:=by
   simp only [World.var?,h1,Option.bind_some]at h3
   cases hh:W.heap[g]? with
   |none=>rw [hh]at h3;cases h3
   |some o=>exact heap_lt hh
  simp only [World.var?,h1,Option.bind_some]at h3⊢
  rw [hb.block g hglt]
  exact h3
 refine⟨_,_,_,[],p,MemPlace.row ⟨g,0,none⟩ cs.size++p',hW',?_,?_,?_,hb.frame _,fun h=>by cases h⟩
 ·rw [hfn.1,hres]
  exact trodAll_mk1 (shut_bool hbt true)
 ·rw [hfn.2.1]
  exact below_trodAll hl hb _ _ _ _ hr hA (fun x hx=>hlt x (List.mem_append_left _ hx))
 ·rw [hfn.2.2,hvars]
  exact trodVars_mk1 h1 h2 h3' h4'
end
theorem gShaRead:∀g t,Tryz.prog.globalNamed "loop.example/g00946/impl.shaWords" =some g→(Tryz.prog.globals[g]?).map (·.type)=some t→Tryz.prog.readableRec t=true∧t<Tryz.prog.types.size:=by
 intro g t hg ht
 obtain rfl:=Option.some.inj (gSha.symm.trans hg)
 obtain rfl:=Option.some.inj (tSha.symm.trans ht)
 exact⟨by kernel_rfl,of_decide_eq_true (by kernel_rfl)⟩
end
end Go.Proofs.YtfgkfcfplodaoaaGreatDoor
