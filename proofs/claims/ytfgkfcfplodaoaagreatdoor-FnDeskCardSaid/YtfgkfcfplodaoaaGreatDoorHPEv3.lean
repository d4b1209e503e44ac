
import Derived.Test.YtfgkfcfplodaoaaGreatDoorHPEv2
import Derived.Orders
set_option linter.unusedSimpArgs false
set_option linter.unusedVariables false
set_option maxRecDepth 100000
namespace Go.Proofs.YtfgkfcfplodaoaaGreatDoor
open Go Go.RowKit
section PQ
abbrev Models:=FuncId→Option (List Arg→Option Res)
def Has (P:Program)(f:FuncId):Prop:=∃fn,P.funcs[f]?=some fn∧(fn.name== "runtime.NumGoroutine")=false∧fn.body.isNone=false
def GSound (P:Program)(Γ:Models):Prop:=∀f m,Γ f=some m→Has P f∧Sound P f m
def callG (Γ:Models)(st:St)(d:Nat)(f:FuncId)(args:List Operand):Option St:=
 match Γ f with
 |some m=>callE st d m args
 |none=>none
def callV (Γ:Models)(st:St)(d:Nat)(fv:PV)(args:List Operand):Option St:=
 match argO st fv,argsO st args with
 |some (.clo f boxes),some xs=>match Γ f with
  |some m=>(m (xs++boxes.map fun c=>.row c 0)).map (impE st d)
  |none=>none
 |_,_=>none
def putV (N:Nat)(st:St)(d:Nat)(v:Option PV):Option St:=
 match v with
 |some v=>if d<N then some (.slot d v::st)else none
 |none=>none
def stepO (P:Program)(Γ:Models)(N:Nat)(st:St)(dst:Option Tmp)(op:Op):Option St:=
 match dst with
 |none=>match op with
  |.store t x y=>storeE P st t x y
  |_=>none
 |some d=>match op with
  |.alloc t=>if d<N then allocE P st d t else none
  |.box _ x=>if d<N then boxE st d x else none
  |.buildSlice t len parts=>if d<N then litE P st d t len parts.toList else none
  |.makeSlice t n c=>if d<N then makeE P st d t (ev st n) (ev st c)else none
  |.call c=>match c.callee with
   |.builtin .append=>match c.args.toList,c.argTypes.toList with
    |[x,y],[t,t']=>if t=t'∧d<N then appE P st d t x y else none
    |_,_=>none
   |.value (.func f)=>if d<N then callG Γ st d f c.args.toList else none
   |.value (.tmp t)=>if d<N then callV Γ st d (ev st (.tmp t)) c.args.toList else none
   |_=>putV N st d (valO P st op)
  |_=>putV N st d (valO P st op)
def wantO (ops:Array Oper)(st:St)(g:Option (Nat×Bool)):Option Bool:=
 match g with
 |none=>some true
 |some (j,want)=>match (ops[j]?).bind (·.dst)with
  |some d=>match getS st d with
   |.comp false [.sc (.bool b)]=>some (b==want)
   |.comp false [.udf]=>some false
   |_=>none
  |none=>none
section
variable {P:Program}{Γ:Models}{γ0:Nat→Option Nat}{w0:World}{N:Nat}{st:St}{a:Act}{w:World}{η:Nat→Value}{γ γ':Nat→Option Nat}
theorem run_v2 {s:Sem Value}{u:Value}{w':World}(h:s.run P w=.ok u w'):(do pure (.value (←s)):Sem Next).run P w=.ok (.value u) w':=by simp [h]
theorem wp_value {o:Oper}{K:Act→World→Prop}{Q:Exit→Act→World→Prop}{u:Value}{w':World}(hr:(execOp a.eval o).run P w=.ok (.value u) w')(h:K (a.put o.dst u) w'):o.wp P a w K Q:=by
 unfold Oper.wp
 rw [hr]
 exact h
theorem putV_sound (h:Inv γ0 w0 N st a w η γ){o:Oper}{d:Nat}(hd:o.dst=some d){st':St}(he:putV N st d (valO P st o.op)=some st'){K:Act→World→Prop}{Q:Exit→Act→World→Prop}(hK:∀a' w',R γ0 w0 N st' a' w'→K a' w'):o.wp P a w K Q:=by
 unfold putV at he
 split at he
 ·rename_i v hv
  split at he
  ·rename_i hN
   cases he
   obtain⟨u,h1,h2⟩:=valO_sound h hv
   refine wp_value h1 (hK _ _ ?_)
   rw [hd]
   exact⟨η,γ,h.put d v u hN h2⟩
  ·cases he
 ·cases he
theorem stepO_sound (hΓ:GSound P Γ)(hR:R γ0 w0 N st a w){o:Oper}{st':St}(he:stepO P Γ N st o.dst o.op=some st'){K:Act→World→Prop}{Q:Exit→Act→World→Prop}(hK:∀a' w',R γ0 w0 N st' a' w'→K a' w'):o.wp P a w K Q:=by
 obtain⟨η,γ,h⟩:=hR
 unfold stepO at he
 split at he
 ·rename_i hd
  split at he
  ·rename_i t x y ho
   obtain⟨w',h1,h2⟩:=storeE_sound h (P:=P) he
   have hr:(execOp a.eval o).run P w=.ok .skip w':=by
    unfold execOp
    rw [ho]
    simp [h1]
   unfold Oper.wp
   rw [hr]
   show K (a.put o.dst undef) w'
   rw [hd]
   exact hK _ _ h2
  ·cases he
 ·rename_i d hd
  split at he
  ·rename_i t ho
   split at he
   ·rename_i hN
    obtain⟨u,w',h1,h2⟩:=allocE_sound h hN (P:=P) he
    refine wp_value (u:=u) (w':=w') ?_ (by rw [hd];exact hK _ _ h2)
    unfold execOp
    rw [ho]
    exact run_v2 h1
   ·cases he
  ·rename_i t x ho
   split at he
   ·rename_i hN
    obtain⟨u,w',h1,h2⟩:=boxE_sound h hN (P:=P) (t:=t) he
    refine wp_value (u:=u) (w':=w') ?_ (by rw [hd];exact hK _ _ h2)
    unfold execOp
    rw [ho]
    exact run_v2 h1
   ·cases he
  ·rename_i t len parts ho
   split at he
   ·rename_i hN
    obtain⟨u,w',h1,h2⟩:=litE_sound h hN (P:=P) he
    refine wp_value (u:=u) (w':=w') ?_ (by rw [hd];exact hK _ _ h2)
    unfold execOp
    rw [ho]
    exact run_v2 h1
   ·cases he
  ·rename_i t n c ho
   split at he
   ·rename_i hN
    obtain⟨u,w',h1,h2⟩:=makeE_sound h hN (P:=P) (ev_sound h n) (ev_sound h c) he
    refine wp_value (u:=u) (w':=w') ?_ (by rw [hd];exact hK _ _ h2)
    unfold execOp
    rw [ho]
    exact run_v2 h1
   ·cases he
  ·rename_i c ho
   split at he
   ·rename_i hc
    split at he
    ·rename_i x y t t' hx ht
     split at he
     ·rename_i hN
      obtain⟨rfl,hN⟩:=hN
      obtain⟨callee,args,ats⟩:=c
      obtain⟨args⟩:=args
      obtain⟨ats⟩:=ats
      simp only at hc hx ht
      subst hc;subst hx;subst ht
      obtain⟨u,w',h1,h2⟩:=appE_sound h hN (P:=P) (ty:=o.type) he
      refine wp_value (u:=u) (w':=w') ?_ (by rw [hd];exact hK _ _ h2)
      unfold execOp
      rw [ho]
      simp [resolve,invoke,builtin,h1]
     ·cases he
    ·cases he
   ·rename_i f hc
    split at he
    ·rename_i hN
     unfold callG at he
     split at he
     ·rename_i m hm
      obtain⟨⟨fn,hf1,hf2,hf3⟩,hs⟩:=hΓ f m hm
      unfold callE at he
      split at he
      ·rename_i xs hxs
       obtain⟨r,hr,rfl⟩:=oms he
       have hargs:=argsO_sound h hxs
       have hcall:=hs xs r _ w h.globw hr hargs
       obtain⟨callee,args,ats⟩:=c
       obtain⟨args⟩:=args
       simp only at hc hxs hcall
       subst hc
       have hrun:(execOp a.eval o).run P w=.ok (.enter f (args.map a.eval).toArray) w:=by
        unfold execOp
        rw [ho]
        have hf2':¬fn.name= "runtime.NumGoroutine" :=by simpa using hf2
        have hf3':¬fn.body=none:=fun e=>by rw [e]at hf3;cases hf3
        simp [resolve,Act.eval,Deferred.ofValue,invoke,callFunc,hf1,hf2',hf3',program,Sem.run]
       unfold Oper.wp
       rw [hrun]
       show Calls P f _ w _
       refine hcall.mono fun e w' hp=>?_
       obtain⟨u,rfl,h2⟩:=impE_sound h hN hp
       show K (a.put o.dst u) w'
       rw [hd]
       exact hK _ _ h2
      ·cases he
     ·cases he
    ·cases he
   ·rename_i t hc
    split at he
    ·rename_i hN
     unfold callV at he
     split at he
     ·rename_i f boxes xs hfv hxs
      split at he
      ·rename_i m hm
       obtain⟨⟨fn,hf1,hf2,hf3⟩,hs⟩:=hΓ f m hm
       obtain⟨r,hr,rfl⟩:=oms he
       have hargs:=argsO_sound h hxs
       obtain⟨bs,hb1,hb2,hb3⟩:=argO_sound h (ev_sound h (.tmp t)) hfv
       have hall:RepAs w (xs++boxes.map fun c=>.row c 0) (c.args.toList.map a.eval++bs.map fun b=>Value.pointer (some ⟨b,0,none⟩)):=by
        refine⟨by simp [hargs.1,hb2],fun j x hj=>?_⟩
        rw [List.getElem?_append]at hj⊢
        rw [hargs.1]
        split at hj
        ·rename_i hlt
         rw [if_pos hlt]
         exact hargs.2 j x hj
        ·rename_i hlt
         rw [if_neg hlt]
         rw [List.getElem?_map]at hj
         obtain⟨c',hc',rfl⟩:=oms hj
         have hlb:j-xs.length<bs.length:=by rw [hb2];exact(gsS hc').1
         have hbj:=gsE hlb
         exact⟨_,by rw [List.getElem?_map,hbj];rfl,_,0,rfl,hb3 _ _ _ hbj hc'⟩
       have hcall:=hs _ r _ w h.globw hr hall
       obtain⟨callee,args,ats⟩:=c
       obtain⟨args⟩:=args
       simp only at hc hxs hcall
       subst hc
       have hrun:(execOp a.eval o).run P w=.ok (.enter f (args.map a.eval++bs.map fun b=>Value.pointer (some ⟨b,0,none⟩)).toArray) w:=by
        unfold execOp
        rw [ho]
        have hf2':¬fn.name= "runtime.NumGoroutine" :=by simpa using hf2
        have hf3':¬fn.body=none:=fun e=>by rw [e]at hf3;cases hf3
        simp [resolve,hb1,Deferred.ofValue,invoke,callFunc,hf1,hf2',hf3',program,Sem.run]
       unfold Oper.wp
       rw [hrun]
       show Calls P f _ w _
       refine hcall.mono fun e w' hp=>?_
       obtain⟨u,rfl,h2⟩:=impE_sound h hN hp
       show K (a.put o.dst u) w'
       rw [hd]
       exact hK _ _ h2
      ·cases he
     ·cases he
    ·cases he
   ·exact putV_sound h hd (by first|exact he|(rw [ho];exact he)) hK
  ·exact putV_sound h hd he hK
theorem wantO_sound (h:Inv γ0 w0 N st a w η γ){ops:Array Oper}{o:Oper}{b:Bool}(hw:wantO ops st o.guard=some b):Region.wanted o (yielded ops a.tmps)=b:=by
 unfold wantO at hw
 unfold Region.wanted
 cases hg:o.guard with
 |none=>
  rw [hg]at hw
  simp only [Option.some.injEq]at hw
  exact hw
 |some p=>
  obtain⟨j,want⟩:=p
  rw [hg]at hw
  simp only at hw⊢
  split at hw
  ·rename_i d hd
   split at hw
   ·rename_i b' hs
    cases hw
    have h1:=h.slots d
    rw [hs]at h1
    obtain⟨h2,-⟩:=rep_sc h1
    have h3:a.tmps[d]?=some (.bool b'):=by
     rw [Array.getD_eq_getD_getElem?]at h2
     cases h4:a.tmps[d]? with
     |none=>rw [h4]at h2;cases h2
     |some u=>rw [h4]at h2;simp only [Option.getD_some]at h2;rw [h2]
    have h5:yielded ops a.tmps j=some b':=by
     unfold yielded
     rw [hd]
     simp [h3]
    rw [h5]
    cases b'<;>cases want<;>rfl
   ·rename_i hs
    cases hw
    have h1:=h.slots d
    rw [hs]at h1
    have h2:a.tmps.getD d undef=undef:=RepV.one_iff.1 h1
    have h5:yielded ops a.tmps j=none:=by
     unfold yielded
     rw [hd]
     rw [Array.getD_eq_getD_getElem?]at h2
     cases h4:a.tmps[d]? with
     |none=>simp [h4]
     |some u=>rw [h4]at h2;simp only [Option.getD_some]at h2;subst h2;simp [h4,undef]
    rw [h5]
    cases want<;>rfl
   ·cases hw
  ·cases hw
def W (P:Program)(γ0:Nat→Option Nat)(w0:World)(N:Nat)(st:St)(c:Code)(Q:Exit→Act→World→Prop):Prop:=∀a w,R γ0 w0 N st a w→c.wp P Q a w
def At (γ0:Nat→Option Nat)(w0:World)(N:Nat)(st:St)(e:Exit)(Q:Exit→Act→World→Prop):Prop:=∀a w,R γ0 w0 N st a w→Q e a w
variable {Q:Exit→Act→World→Prop}{c x y:Code}
theorem W.seq (h:W P γ0 w0 N st x (Exit.then (y.wp P Q) Q)):W P γ0 w0 N st (.seq x y) Q:=fun a w hR=>wp_seq (h a w hR)
theorem W.block {id:Nat}(h:W P γ0 w0 N st c (Exit.inBlock id Q)):W P γ0 w0 N st (.block id c) Q:=fun a w hR=>wp_block (h a w hR)
theorem W.skip (h:At γ0 w0 N st .normal Q):W P γ0 w0 N st .skip Q:=fun a w hR=>wp_skip (h a w hR)
theorem W.exit {id:Nat}(h:At γ0 w0 N st (.exit id) Q):W P γ0 w0 N st (.exit id) Q:=fun a w hR=>wp_exit (h a w hR)
theorem W.ret (h:At γ0 w0 N st .ret Q):W P γ0 w0 N st .ret Q:=fun a w hR=>wp_ret (h a w hR)
theorem W.cond {o:Operand}{b:Bool}(he:ev st o=one (.sc (.bool b)))(h:W P γ0 w0 N st (if b then x else y) Q):W P γ0 w0 N st (.cond o x y) Q:=fun a w hR=>by
 obtain⟨η,γ,hI⟩:=id hR
 have h1:=ev_sound hI o
 rw [he]at h1
 exact wp_cond (rep_sc h1).1 (h a w hR)
theorem W.cond2 {o:Operand}{b:Bool}(he:ev st o=one (.sc (.bool b)))(h1:b=true→W P γ0 w0 N st x Q)(h2:b=false→W P γ0 w0 N st y Q):W P γ0 w0 N st (.cond o x y) Q:=by
 refine W.cond he ?_
 cases b with
 |true=>exact h1 rfl
 |false=>exact h2 rfl
theorem least (T:Nat→Prop)(h:∃n,T n):∃n,T n∧∀m,T m→n≤m:=by
 obtain⟨n,hn⟩:=h
 induction n using Nat.strongRecOn with
 |_ n ih=>
  by_cases hx:∃m,m<n∧T m
  ·obtain⟨m,hm,hT⟩:=hx
   exact ih m hm hT
  ·exact⟨n,hn,fun m hT=>Nat.le_of_not_lt fun hlt=>hx ⟨m,hlt,hT⟩⟩
open Classical in
theorem W.loop {ι:Type}(J:ι→St)(m:ι→Nat)(i0:ι)(h:∀i,W P γ0 w0 N (J i) c (Exit.then (fun a w=>∃i',m i'<m i∧R γ0 w0 N (J i') a w) Q)):W P γ0 w0 N (J i0) (.loop c) Q:=fun a w hR=>by
 let I:Act→World→Prop:=fun a w=>∃i,R γ0 w0 N (J i) a w
 let T:Act→World→Nat→Prop:=fun a w n=>∃i,m i=n∧R γ0 w0 N (J i) a w
 let μ:Act→World→Nat:=fun a w=>if h:∃n,T a w n then(least _ h).choose else 0
 refine wp_loop I μ ⟨i0,hR⟩ fun a w ⟨i,hi⟩=>?_
 have hex:∃n,T a w n:=⟨m i,i,rfl,hi⟩
 have hμ:μ a w=(least _ hex).choose:=dif_pos hex
 obtain⟨j,hj,hRj⟩:=(least _ hex).choose_spec.1
 refine wp_mono (h j a w hRj) fun e a' w' hq=>?_
 cases e with
 |normal=>
  obtain⟨i',hlt,hR'⟩:=hq
  refine⟨⟨i',hR'⟩,?_⟩
  have hex':∃n,T a' w' n:=⟨m i',i',rfl,hR'⟩
  have hμ':μ a' w'=(least _ hex').choose:=dif_pos hex'
  have:=(least _ hex').choose_spec.2 _ ⟨i',rfl,hR'⟩
  rw [hμ,hμ']
  omega
 |_=>exact hq
end
end PQ
section PR
def argPV:Arg→PV
 |.val g ls=>.comp g (ls.map toPL)
 |.row cells off=>one (.prow cells off)
 |.clo f boxes=>one (.clo f boxes)
def initS:Nat→List Arg→St
 |_,[]=>[]
 |i,x::r=>.slot i (argPV x)::initS (i+1) r
section
variable {P:Program}{Γ:Models}{γ0:Nat→Option Nat}{w0:World}{N:Nat}{st st':St}{a:Act}{w:World}{η:Nat→Value}{γ γ':Nat→Option Nat}
theorem argPV_sound {x:Arg}{u:Value}{hb:Nat→Option Blk}(h:RepA w x u):RepV hb η none0 w (argPV x) u:=by
 cases x with
 |val g ls=>
  cases g with
  |true=>
   obtain⟨us,rfl,h1⟩:=h
   exact⟨us,rfl,toPLs_sound h1⟩
  |false=>
   obtain⟨l,rfl,h1⟩:=h
   exact⟨toPL l,rfl,toPL_sound h1⟩
 |row cells off=>
  obtain⟨b,o,rfl,h1,us,h2,h3⟩:=h
  exact RepV.one_iff.2 ⟨b,o,us,rfl,h1,rfl,h2,h3⟩
 |clo f boxes=>
  obtain⟨bs,h1,h2,h3⟩:=h
  refine RepV.one_iff.2 ⟨bs,h1,h2,fun j b c hj hc=>?_⟩
  obtain⟨g1,us,g2,g3⟩:=h3 j b c hj hc
  exact⟨rfl,g1,us,g2,fun i v hi=>by have:=g3 i v hi;rw [Nat.zero_add]at this;exact this⟩
theorem initS_blk:∀(args:List Arg) (i n:Nat),getB (initS i args) n=none
 |[],i,n=>rfl
 |x::r,i,n=>initS_blk r (i+1) n
theorem initS_get {hb:Nat→Option Blk}:∀(args:List Arg) (i:Nat) (f:Nat→Value) (_:∀(j:Nat) (x:Arg),args[j]?=some x→RepA w x (f (i+j))) (t:Nat),RepV hb η none0 w (getS (initS i args) t) (f t)
 |[],i,f,h,t=>RepV.one_iff.2 trivial
 |x::r,i,f,h,t=>by
  show RepV hb η none0 w (if i=t then argPV x else getS (initS (i+1) r) t) (f t)
  by_cases e:i=t
  ·subst e
   rw [if_pos rfl]
   exact argPV_sound (h 0 x rfl)
  ·rw [if_neg e]
   exact initS_get r (i+1) f (fun j y hj=>by
    have:=h (j+1) y (by simpa using hj)
    rw [show i+1+j=i+(j+1)by omega]
    exact this) t
theorem enter {f:FuncId}{fn:Func}{c:Code}{args:List Arg}{vs:List Value}{R':Ending→World→Prop}(hf:P.funcs[f]?=some fn)(hb:fn.body=some c)(hN:fn.ntmps=N)(hl:args.length≤N)(hargs:RepAs w args vs)(hgl:GlobOk none0 w)
  (h:W P none0 w N (initS 0 args) c (bodyPost P fn R')):Calls P f vs.toArray w R':=by
 refine calls_of_wp hf hb (h _ _ ⟨fun _=>undef,none0,?_⟩)
 refine {slots:=fun t=>?_,blks:=fun n b hb=>(by rw [initS_blk]at hb;cases hb),live:=fun b n hb=>(by cases hb),low:=fun b _ _=>⟨rfl,rfl⟩,os:=rfl,tape:=rfl,output:=rfl,size:=Nat.le_refl _,defers:=rfl,width:=?_,glob:=hgl,pin:=fun _ b ls hb _=>(by cases hb),pinA:=PinA.no fun _ fl e s rows hb=>(by rw [initS_blk]at hb;cases hb)}
 ·refine initS_get args 0 (fun t=>(vs.toArray++Array.replicate (fn.ntmps-vs.toArray.size) undef).getD t undef) (fun j x hj=>?_) t
  obtain⟨v,h1,h2⟩:=hargs.2 j x hj
  have hlt:j<vs.length:=(gsS h1).1
  have:(vs.toArray++Array.replicate (fn.ntmps-vs.toArray.size) undef).getD (0+j) undef=v:=by
   rw [Nat.zero_add,Array.getD_eq_getD_getElem?,Array.getElem?_append_left (by simpa using hlt)]
   simp [h1]
  rw [this]
  exact h2
 ·have:=hargs.1
  simp
  omega
theorem Sound.of {f:FuncId}{fn:Func}{c:Code}{m:List Arg→Option Res}(hf:P.funcs[f]?=some fn)(hb:fn.body=some c)(hN:fn.ntmps=N)
  (h:∀args r w,m args=some r→args.length≤N∧W P none0 w N (initS 0 args) c (bodyPost P fn (Post w r))):Sound P f m:=
 fun args r vs w hgl hm hargs=>enter hf hb hN (h args r w hm).1 hargs hgl (h args r w hm).2
def resV (P:Program)(st:St):ResultVar→Option PV
 |.tmp t=>some (getS st t)
 |.cell t ty=>loadE P st ty (getS st t)
def rlO (st:St):PL→Option RL
 |.sc v=>some (.ro (.sc v))
 |.nil=>some (.ro (.sl []))
 |.sl []=>some (.ro (.sl []))
 |.all n=>match getB st n with
  |some (.arr fl e s rows)=>if fl.ok=true then some (.own fl e s rows)else none
  |_=>none
 |_=>none
def rlsO (st:St):List PL→Option (List RL)
 |[]=>some []
 |l::r=>match rlO st l,rlsO st r with
  |some x,some y=>some (x::y)
  |_,_=>none
def compO (st:St):PV→Option (Bool×List RL)
 |.comp g ls=>(rlsO st ls).map fun x=>(g,x)
 |_=>none
def compsO (P:Program)(st:St):List ResultVar→Option (List (Bool×List RL))
 |[]=>some []
 |x::r=>match (resV P st x).bind (compO st),compsO P st r with
  |some a,some b=>some (a::b)
  |_,_=>none
def toRes:List (Bool×List RL)→Res
 |[(g,ls)]=>.comp g ls
 |vs=>.tup vs
def resO (P:Program)(st:St)(rs:List ResultVar):Option Res:=(compsO P st rs).map toRes
def ownL:Nat→List PL→List (Nat×Nat)
 |_,[]=>[]
 |i,.all n::r=>(i,n)::ownL (i+1) r
 |i,_::r=>ownL (i+1) r
def ownC (P:Program)(st:St):Nat→List ResultVar→List (Nat×Nat)
 |_,[]=>[]
 |j,x::r=>(match resV P st x with
  |some (.comp _ ls)=>ownL (64*j) ls
  |_=>[])++ownC P st (j+1) r
def apart:List (Nat×Nat)→Bool
 |[]=>true
 |p::r=>r.all (fun q=>p.1 !=q.1&&p.2 !=q.2)&&apart r
theorem apart_spec:∀{L:List (Nat×Nat)} (_:apart L=true) {i j n m:Nat} (_:(i,n)∈L) (_:(j,m)∈L),(n=m→i=j)∧(i=j→n=m)
 |p::r,h,i,j,n,m,h1,h2=>by
  simp only [apart,Bool.and_eq_true,List.all_eq_true,bne_iff_ne,ne_eq]at h
  obtain⟨h3,h4⟩:=h
  rcases List.mem_cons.1 h1 with e1|h1<;>rcases List.mem_cons.1 h2 with e2|h2
  ·rw [←e1]at e2
   cases e2
   exact⟨fun _=>rfl,fun _=>rfl⟩
  ·have:=h3 _ h2
   rw [←e1]at this
   exact⟨fun e=>absurd e this.2,fun e=>absurd e this.1⟩
  ·have:=h3 _ h1
   rw [←e2]at this
   exact⟨fun e=>absurd e.symm this.2,fun e=>absurd e.symm this.1⟩
  ·exact apart_spec h4 h1 h2
theorem RepLs.sc {ls:List Leaf}{us:List Value}(h:RepLs w γ ls us)(hf:∀l∈ls,∃v,l=.sc v)(γ':Nat→Option Nat):RepLs w γ' ls us:=by
 refine⟨h.1,fun j l hj=>?_⟩
 obtain⟨u,h1,h2⟩:=h.2 j l hj
 obtain⟨v,rfl⟩:=hf l (List.mem_of_getElem? hj)
 refine⟨u,h1,?_⟩
 cases h2 with
 |sc h3=>exact .sc h3
def rsem (a:Act):ResultVar→Sem Value
 |.tmp t=>pure (a.tmps.getD t undef)
 |.cell t ty=>do loadVar ty (←asAddr (a.tmps.getD t undef))
theorem resV_sound (h:Inv γ0 w0 N st a w η γ){x:ResultVar}{v:PV}(hv:resV P st x=some v):∃u,(rsem a x).run P w=Result.ok u w∧RepV (getB st) η γ w v u:=by
 cases x with
 |tmp t=>cases hv;exact⟨_,rfl,h.slots t⟩
 |cell t ty=>
  have hs:=h.slots t
  have hv:loadE P st ty (getS st t)=some v:=hv
  obtain⟨u,h1,h2⟩:=loadE_sound h (P:=P) hs hv
  refine⟨u,?_,h2⟩
  have hp:∃A,a.tmps.getD t undef=.pointer (some A):=by
   generalize getS st t=s at hs hv
   unfold loadE at hv
   split at hv
   ·obtain⟨_,b,_,_,e⟩:=RepV.one_iff.1 hs;exact⟨_,e⟩
   ·obtain⟨_,_,_,_,b,c,_,_,_,e⟩:=RepV.one_iff.1 hs;exact⟨_,e⟩
   ·obtain⟨b,o,us,_,_,e,_⟩:=RepV.one_iff.1 hs;exact⟨_,e⟩
   ·cases hv
  obtain⟨A,hA⟩:=hp
  unfold rsem
  rw [hA]at h1
  simp only [hA]
  simp only [Instr.loadAt,Instr.sureAddr,Sem.run_bind,Sem.run_pure,Result.andThen_ok]at h1
  simp [asAddr,h1]
theorem find_own {L:List (Nat×Nat)}(hL:apart L=true){i n:Nat}(h:(i,n)∈L):L.find? (fun p=>p.2==n)=some (i,n)∧L.find? (fun p=>p.1==i)=some (i,n):=by
 constructor
 ·cases hf:L.find? (fun p=>p.2==n)with
  |none=>
   have:=List.find?_eq_none.1 hf (i,n) h
   simp at this
  |some p=>
   obtain⟨j,m⟩:=p
   have h1:=List.find?_some hf
   have h2:=List.mem_of_find?_eq_some hf
   simp only [beq_iff_eq]at h1
   subst h1
   rw [(apart_spec hL h2 h).1 rfl]
 ·cases hf:L.find? (fun p=>p.1==i)with
  |none=>
   have:=List.find?_eq_none.1 hf (i,n) h
   simp at this
  |some p=>
   obtain⟨j,m⟩:=p
   have h1:=List.find?_some hf
   have h2:=List.mem_of_find?_eq_some hf
   simp only [beq_iff_eq]at h1
   subst h1
   rw [(apart_spec hL h2 h).2 rfl]
theorem ownL_mem {n:Nat}:∀{ls:List PL} {i k:Nat} (_:ls[k]?=some (.all n)),(i+k,n)∈ownL i ls
 |[],i,k,h=>by simp at h
 |l::r,i,k,h=>by
  cases k with
  |zero=>
   simp only [List.getElem?_cons_zero,Option.some.injEq]at h
   subst h
   exact List.mem_cons_self
  |succ k=>
   have ih:=ownL_mem (ls:=r) (i:=i+1) (k:=k) (by simpa using h)
   rw [show i+1+k=i+(k+1)by omega]at ih
   cases l<;>first|exact List.mem_cons_of_mem _ ih|exact ih
theorem ownC_mem {p:Nat×Nat}:∀{rs:List ResultVar} {j k:Nat} {x:ResultVar} {g:Bool} {ls:List PL} (_:rs[k]?=some x) (_:resV P st x=some (.comp g ls)) (_:p∈ownL (64*(j+k)) ls),p∈ownC P st j rs
 |[],j,k,x,g,ls,h,_,_=>by simp at h
 |y::r,j,k,x,g,ls,h,hx,hp=>by
  cases k with
  |zero=>
   simp only [List.getElem?_cons_zero,Option.some.injEq]at h
   subst h
   unfold ownC
   rw [hx]
   exact List.mem_append_left _ hp
  |succ k=>
   unfold ownC
   exact List.mem_append_right _ (ownC_mem (rs:=r) (j:=j+1) (k:=k) (by simpa using h) hx (by rw [show j+1+k=j+(k+1)by omega];exact hp))
theorem rlsO_get:∀{ls:List PL} {xs:List RL} (_:rlsO st ls=some xs),xs.length=ls.length∧∀(k:Nat) (x:RL),xs[k]?=some x→∃l,ls[k]?=some l∧rlO st l=some x
 |[],xs,h=>by
  simp only [rlsO,Option.some.injEq]at h
  subst h
  exact⟨rfl,fun k x hk=>by simp at hk⟩
 |l::r,xs,h=>by
  unfold rlsO at h
  split at h
  ·rename_i x y h1 h2
   cases h
   obtain⟨h3,h4⟩:=rlsO_get h2
   refine⟨by simp [h3],fun k z hk=>?_⟩
   cases k with
   |zero=>
    simp only [List.getElem?_cons_zero,Option.some.injEq]at hk
    subst hk
    exact⟨l,rfl,h1⟩
   |succ k=>
    obtain⟨l',h5,h6⟩:=h4 k z (by simpa using hk)
    exact⟨l',by simpa using h5,h6⟩
  ·cases h
theorem rlO_own {l:PL}{fl:Fl}{e s:Nat}{rows:List (List Leaf)}(h:rlO st l=some (.own fl e s rows)):∃n,l=.all n∧getB st n=some (.arr fl e s rows):=by
 unfold rlO at h
 split at h
 ·cases h
 ·cases h
 ·cases h
 ·rename_i n
  split at h
  ·rename_i hbx
   split at h
   ·cases h
    exact⟨n,rfl,hbx⟩
   ·cases h
  ·cases h
 ·cases h
theorem compsO_own {fl:Fl}{e s:Nat}{rows:List (List Leaf)}:∀{rs:List ResultVar} {vs:List (Bool×List RL)} (_:compsO P st rs=some vs) (j:Nat) {i k:Nat} {g:Bool} {ls:List RL} (_:vs[i]?=some (g,ls)) (_:ls[k]?=some (.own fl e s rows)),∃n,(64*(j+i)+k,n)∈ownC P st j rs∧getB st n=some (.arr fl e s rows)
 |[],vs,h,j,i,k,g,ls,h1,h2=>by
  simp only [compsO,Option.some.injEq]at h
  subst h
  simp at h1
 |x::r,vs,h,j,i,k,g,ls,h1,h2=>by
  unfold compsO at h
  split at h
  ·rename_i p q e1 e2
   cases h
   cases i with
   |zero=>
    simp only [List.getElem?_cons_zero,Option.some.injEq]at h1
    subst h1
    obtain⟨v,hv,hco⟩:=Option.bind_eq_some_iff.1 e1
    cases v with
    |tup _=>cases hco
    |comp g' ls'=>
     obtain⟨xs,hx,he⟩:=oms hco
     injection he with e3 e4
     subst e3;subst e4
     obtain⟨_,hxg⟩:=rlsO_get hx
     obtain⟨l,h3,h4⟩:=hxg k _ h2
     obtain⟨n,rfl,h5⟩:=rlO_own h4
     exact⟨n,ownC_mem (k:=0) (j:=j) rfl hv (ownL_mem h3),h5⟩
   |succ i=>
    obtain⟨n,h3,h4⟩:=compsO_own e2 (j+1) (by simpa using h1) h2
    refine⟨n,?_,h4⟩
    unfold ownC
    rw [show j+(i+1)=j+1+i by omega]
    exact List.mem_append_right _ h3
  ·cases h
theorem compsO_at {fl:Fl}{e s:Nat}{rows:List (List Leaf)}{rs:List ResultVar}{vs:List (Bool×List RL)}(h:compsO P st rs=some vs){k:Nat}(j:Nat)(hat:isAt (toRes vs) k (.own fl e s rows)):∃n,(64*j+k,n)∈ownC P st j rs∧getB st n=some (.arr fl e s rows):=by
 unfold toRes at hat
 split at hat
 ·rename_i g ls
  obtain⟨n,h1,h2⟩:=compsO_own h j (i:=0) rfl hat
  exact⟨n,by simpa using h1,h2⟩
 ·obtain⟨i,k',g,ls,h1,h2,rfl⟩:=hat
  obtain⟨n,h3,h4⟩:=compsO_own h j h1 h2
  refine⟨n,?_,h4⟩
  rw [show 64*j+(64*i+k')=64*(j+i)+k' by omega]
  exact h3
section
variable (η γ)(w0:World)(L:List (Nat×Nat))
def γout:Nat→Option Nat:=fun b=>if b<w0.heap.size then some 0 else match γ b with
 |some n=>(L.find? (fun p=>p.2==n)).map (·.1)
 |none=>none
def hout:Nat→Value:=fun i=>match L.find? (fun p=>p.1==i)with
 |some p=>η p.2
 |none=>undef
end
theorem rlO_sound (h:Inv none0 w0 N st a w η γ){L:List (Nat×Nat)}(hL:apart L=true){l:PL}{x:RL}{u:Value}{i:Nat}(hl:RepP (getB st) η γ w l u)(hx:rlO st l=some x)(hm:∀n,l=.all n→(i,n)∈L):RepRL w0.heap.size w (γout γ w0 L) (hout η L) i x u:=by
 unfold rlO at hx
 split at hx
 ·cases hx;obtain⟨rfl,h1⟩:=hl;exact .sc h1
 ·cases hx;cases hl;exact .emp (Nat.zero_le _)
 ·cases hx
  cases hl with
  |emp hc=>exact .emp hc
  |sl val g1 g2 g3 g4 g5 g6 g7=>exact .emp g4
 ·rename_i n
  split at hx
  ·rename_i fl e s rows hbx
   split at hx
   ·rename_i hok
    cases hx
    have hmem:=hm n rfl
    obtain⟨f1,f2⟩:=find_own hL hmem
    obtain⟨rfl,_⟩:=hl
    obtain⟨xs,h1,h2,h3,h4,h5⟩:=h.blks n _ hbx
    have hgn:∀b,γ b=some n→w0.heap.size≤b∧γout γ w0 L b=some i:=fun b hg=>by
     have hge:¬b<w0.heap.size:=fun hlt=>by
      have:=(h.low b hlt rfl).1
      rw [hg]at this
      cases this
     exact⟨Nat.le_of_not_lt hge,by simp only [γout,if_neg hge,hg,f1,Option.map_some]⟩
    refine⟨by simp only [hout,f2],xs,h1,?_,h3,fun b hb=>hgn b (h4 b hb),h5.kp fun b hg=>hid_of (hgn b hg).1 (hgn b hg).2⟩
    by_cases hf:fl.nst=true
    ·exact h2.kp (Kp.vwO hf hgn)
    ·have hfl:fl=.ft:=by cases fl<;>first|rfl|(exact absurd rfl hf)|cases hok
     exact h2.sc (fun l hl=>by
      obtain⟨row,hr,hlr⟩:=List.mem_flatten.1 hl
      exact h5.1 hfl row hr l hlr) _
   ·cases hx
  ·cases hx
 ·cases hx
theorem results_run {rs:List ResultVar}:∀(us:List Value) (_:us.length=rs.length) (_:∀(k:Nat) (x:ResultVar),rs[k]?=some x→∃u,us[k]?=some u∧(rsem a x).run P w=Result.ok u w),
  (rs.mapM (rsem a)).run P w=Result.ok us w:=by
 induction rs with
 |nil=>
  intro us hl _
  have:us=[]:=List.length_eq_zero_iff.1 hl
  subst this
  rfl
 |cons x r ih=>
  intro us hl h
  cases us with
  |nil=>simp at hl
  |cons u us=>
   obtain⟨u',h1,h2⟩:=h 0 x rfl
   simp only [List.getElem?_cons_zero,Option.some.injEq]at h1
   subst h1
   have:=ih us (by simpa using hl) (fun k y hk=>by
    obtain⟨u',h3,h4⟩:=h (k+1) y (by simpa using hk)
    exact⟨u',by simpa using h3,h4⟩)
   rw [List.mapM_cons]
   simp only [Sem.run_bind,h2,Result.andThen_ok,this,Sem.run_pure]
theorem At.ret {fn:Func}{r:Res}(hr:resO P st fn.results.toList=some r)(hL:apart (ownC P st 0 fn.results.toList)=true):At none0 w0 N st .ret (bodyPost P fn (Post w0 r)):=by
 intro a w ⟨η,γ,h⟩
 refine⟨h.defers,?_⟩
 obtain⟨vs,hvs,rfl⟩:=oms hr
 generalize hLdef:ownC P st 0 fn.results.toList=L at hL
 have key:∀(rs:List ResultVar) (j:Nat) (vs:List (Bool×List RL)),compsO P st rs=some vs→(∀p,p∈ownC P st j rs→p∈L)→
   ∃us:List Value,us.length=rs.length∧us.length=vs.length∧(∀(k:Nat) (x:ResultVar),rs[k]?=some x→∃u,us[k]?=some u∧(rsem a x).run P w=Result.ok u w)∧
   ∀(k:Nat) (g:Bool) (ls:List RL),vs[k]?=some (g,ls)→∃u,us[k]?=some u∧RepRC w0.heap.size w (γout γ w0 L) (hout η L) (64*(j+k)) g ls u:=by
  intro rs
  induction rs with
  |nil=>
   intro j vs hv _
   simp only [compsO,Option.some.injEq]at hv
   subst hv
   exact⟨[],rfl,rfl,fun k x hk=>by simp at hk,fun k g ls hk=>by simp at hk⟩
  |cons x r ih=>
   intro j vs hv hsub
   unfold compsO at hv
   split at hv
   ·rename_i p q h1 h2
    cases hv
    obtain⟨g0,ls0⟩:=p
    obtain⟨v,hv,hco⟩:=Option.bind_eq_some_iff.1 h1
    obtain⟨u,hu1,hu2⟩:=resV_sound h hv
    obtain⟨us,l1,l2,l3,l4⟩:=ih (j+1) q h2 (fun p hp=>hsub p (by unfold ownC;exact List.mem_append_right _ hp))
    have hcomp:RepRC w0.heap.size w (γout γ w0 L) (hout η L) (64*j) g0 ls0 u:=by
     cases v with
     |tup _=>cases hco
     |comp g ls=>
      obtain⟨xs,hx,he⟩:=oms hco
      injection he with e1 e2
      subst e1;subst e2
      obtain⟨hxl,hxg⟩:=rlsO_get hx
      have hmem:∀(k n:Nat),ls[k]?=some (.all n)→(64*j+k,n)∈L:=fun k n hk=>hsub _ (ownC_mem (k:=0) (j:=j) rfl hv (ownL_mem hk))
      cases g with
      |true=>
       obtain⟨cs,rfl,c1,c2⟩:=hu2
       refine⟨cs,rfl,by rw [c1,hxl],fun k l hk=>?_⟩
       obtain⟨pl,p1,p2⟩:=hxg k l hk
       obtain⟨c,c3,c4⟩:=c2 k pl p1
       exact⟨c,c3,rlO_sound h hL c4 p2 (fun n e=>hmem k n (e▸p1))⟩
      |false=>
       obtain⟨pl,rfl,c4⟩:=hu2
       cases xs with
       |nil=>simp at hxl
       |cons l xr=>
        cases xr with
        |cons _ _=>simp at hxl
        |nil=>
         obtain⟨pl',p1,p2⟩:=hxg 0 l rfl
         simp only [List.getElem?_cons_zero,Option.some.injEq]at p1
         subst p1
         exact⟨l,rfl,rlO_sound h hL c4 p2 (fun n e=>by have:=hmem 0 n (by rw [e];rfl);simpa using this)⟩
    refine⟨u::us,by simp [l1],by simp [l2],fun k y hk=>?_,fun k g ls hk=>?_⟩
    ·cases k with
     |zero=>
      simp only [List.getElem?_cons_zero,Option.some.injEq]at hk
      subst hk
      exact⟨u,rfl,hu1⟩
     |succ k=>
      obtain⟨u',h5,h6⟩:=l3 k y (by simpa using hk)
      exact⟨u',by simpa using h5,h6⟩
    ·cases k with
     |zero=>
      simp only [List.getElem?_cons_zero,Option.some.injEq]at hk
      cases hk
      exact⟨u,rfl,hcomp⟩
     |succ k=>
      obtain⟨u',h5,h6⟩:=l4 k g ls (by simpa using hk)
      rw [show j+1+k=j+(k+1)by omega]at h6
      exact⟨u',by simpa using h5,h6⟩
   ·cases hv
 obtain⟨us,l1,l2,l3,l4⟩:=key fn.results.toList 0 vs hvs (fun p hp=>hLdef▸hp)
 have hrun:=results_run us l1 l3
 have hpost:∀(u:Value),RepR w0.heap.size w (γout γ w0 L) (hout η L) (toRes vs) u→Post w0 (toRes vs) (.returned u) w:=by
  intro u hu
  refine⟨u,_,_,rfl,⟨h.os,h.tape,h.output,h.size,fun k hk=>(h.low k hk rfl).2⟩,fun b hb=>by simp [γout,hb],fun b k hb hk=>?_,hu⟩
  have hnb:¬b<w0.heap.size:=Nat.not_lt.2 hb
  simp only [γout,if_neg hnb]at hk
  cases hg:γ b with
  |none=>simp [hg]at hk
  |some n=>
   simp only [hg]at hk
   obtain⟨p,hp,rfl⟩:=oms hk
   have h1:=List.find?_some hp
   have h2:=List.mem_of_find?_eq_some hp
   obtain⟨i,m⟩:=p
   simp only [beq_iff_eq]at h1
   subst h1
   obtain⟨g1,g2,_⟩:=h.live b m hg
   refine⟨g1,g2.imp (fun g2=>?_) (fun g2 fl e s rows hat=>?_)⟩
   ·simp only [hout,(find_own hL h2).2]
    exact g2
   ·obtain⟨m',h3,h4⟩:=compsO_at hvs 0 hat
    have h5:m'=m:=(apart_spec hL (by rw [←hLdef];simpa using h3) h2).2 rfl
    subst h5
    rw [h4]at g2
    exact g2
 have hres:(results fn a.tmps).run P w=.ok (if h:us.length=1 then us[0]'(by rw [h];exact Nat.zero_lt_one)else .tuple us.toArray) w:=by
  have hrun':(fn.results.mapM (rsem a)).run P w=Result.ok us.toArray w:=by
   have e:fn.results=fn.results.toList.toArray:=by simp
   rw [e,List.mapM_toArray]
   simp only [Sem.run_map]
   rw [hrun]
   rfl
  have hfx:(fun x=>match x with
   |.tmp t=>(pure (a.tmps.getD t undef):Sem Value)
   |.cell t ty=>do loadVar ty (←asAddr (a.tmps.getD t undef)))=rsem a:=by
   funext x
   cases x<;>rfl
  have hfun:results fn a.tmps=(fn.results.mapM (rsem a)>>=fun vs=>pure (if h:vs.size=1 then vs[0]'(by rw [h];exact Nat.zero_lt_one)else .tuple vs)):=by
   unfold results
   rw [←hfx]
   rfl
  rw [hfun]
  simp only [Sem.run_bind,hrun',Result.andThen_ok,Sem.run_pure,List.size_toArray,List.getElem_toArray]
 refine⟨_,hres,?_⟩
 by_cases h1:us.length=1
 ·rw [dif_pos h1]
  refine hpost _ ?_
  cases vs with
  |nil=>rw [h1]at l2;simp at l2
  |cons p r=>
   cases r with
   |cons _ _=>rw [h1]at l2;simp at l2
   |nil=>
    obtain⟨g,ls⟩:=p
    obtain⟨u,h2,h3⟩:=l4 0 g ls rfl
    have:us[0]'(by omega)=u:=by
     rw [gsE (by omega)]at h2
     cases h2;rfl
    rw [this]
    show RepRC _ _ _ _ 0 g ls u
    simpa using h3
 ·rw [dif_neg h1]
  refine hpost _ ?_
  have htup:toRes vs=.tup vs:=by
   unfold toRes
   split
   ·exact absurd l2 (by simpa using h1)
   ·rfl
  rw [htup]
  exact⟨us,rfl,l2,fun j g ls hj=>by
   obtain⟨u,h2,h3⟩:=l4 j g ls hj
   exact⟨u,h2,by rw [Nat.zero_add]at h3;exact h3⟩⟩
end
end PR
section PS
def PL.nms:PL→List Nat
 |.all m=>[m]
 |.ref m _ _=>[m]
 |.ptr m _=>[m]
 |.pel m _ _=>[m]
 |.lit m=>[m]
 |.fn _ cap=>cap
 |_=>[]
def lsNms:List PL→List Nat
 |[]=>[]
 |l::r=>l.nms++lsNms r
def vsNms:List (Bool×List PL)→List Nat
 |[]=>[]
 |v::r=>lsNms v.2++vsNms r
def PV.nms:PV→List Nat
 |.comp _ ls=>lsNms ls
 |.tup vs=>vsNms vs
def Blk.nms:Blk→List Nat
 |.box ls=>lsNms ls
 |.arr _ _ _ _=>[]
def bound (st:St):List Nat→Prop
 |[]=>True
 |n::r=>(getB st n).isSome=true∧bound st r
def SubL (st all:St):St→Prop
 |[]=>True
 |.slot t v::r=>(getS st t=v∧bound all v.nms)∧SubL st all r
 |.blk n b::r=>(getB st n=some b∧bound all b.nms)∧SubL st all r
 |.kill _::_=>False
def Sub (st' st:St):Prop:=SubL st st' st'
theorem PL.nms_of {l:PL}{m:Nat}(h:l.names m=true):m∈l.nms:=by
 cases l<;>simp [PL.names,PL.nms]at h⊢<;>first|exact h.symm|exact h
theorem lsNms_of {ls:List PL}{l:PL}{m:Nat}(hl:l∈ls)(h:m∈l.nms):m∈lsNms ls:=by
 induction ls with
 |nil=>cases hl
 |cons x r ih=>
  rcases List.mem_cons.1 hl with rfl|hl
  ·exact List.mem_append_left _ h
  ·exact List.mem_append_right _ (ih hl)
theorem vsNms_of {vs:List (Bool×List PL)}{g:Bool}{ls:List PL}{m:Nat}(hl:(g,ls)∈vs)(h:m∈lsNms ls):m∈vsNms vs:=by
 induction vs with
 |nil=>cases hl
 |cons x r ih=>
  rcases List.mem_cons.1 hl with rfl|hl
  ·exact List.mem_append_left _ h
  ·exact List.mem_append_right _ (ih hl)
theorem bound_mem {st:St}{ns:List Nat}(h:bound st ns){n:Nat}(hn:n∈ns):(getB st n).isSome=true:=by
 induction ns with
 |nil=>cases hn
 |cons x r ih=>
  rcases List.mem_cons.1 hn with rfl|hn
  ·exact h.1
  ·exact ih h.2 hn
section
variable {P:Program}{Γ:Models}{γ0:Nat→Option Nat}{w0:World}{N:Nat}{st st':St}{a:Act}{w:World}{η:Nat→Value}{γ γ':Nat→Option Nat}
 {hb hb':Nat→Option Blk} {η':Nat→Value} {w':World} {p:Nat→Prop}
theorem RepPs.kpN (hn:Nm hb hb' η η' p)(hk:Kp w w' γ γ'){ls:List PL}{us:List Value}(hp:∀m∈lsNms ls,p m)(h:RepPs hb η γ w ls us):RepPs hb' η' γ' w' ls us:=
 ⟨h.1,fun j l hj=>by obtain⟨u,h2,h3⟩:=h.2 j l hj;exact⟨u,h2,h3.kp hn hk fun m hm=>hp m (lsNms_of (List.mem_of_getElem? hj) (PL.nms_of hm))⟩⟩
theorem RepC.kpN (hn:Nm hb hb' η η' p)(hk:Kp w w' γ γ'){g:Bool}{ls:List PL}{u:Value}(hp:∀m∈lsNms ls,p m)(h:RepC hb η γ w g ls u):RepC hb' η' γ' w' g ls u:=by
 cases g with
 |true=>obtain⟨us,h1,h2⟩:=h;exact⟨us,h1,h2.kpN hn hk hp⟩
 |false=>obtain⟨l,rfl,h2⟩:=h;exact⟨l,rfl,h2.kp hn hk fun m hm=>hp m (lsNms_of List.mem_cons_self (PL.nms_of hm))⟩
theorem RepV.kpN (hn:Nm hb hb' η η' p)(hk:Kp w w' γ γ'){v:PV}{u:Value}(hp:∀m∈v.nms,p m)(h:RepV hb η γ w v u):RepV hb' η' γ' w' v u:=by
 cases v with
 |comp g ls=>exact RepC.kpN hn hk hp h
 |tup vs=>
  obtain⟨us,h1,h2,h3⟩:=h
  exact⟨us,h1,h2,fun j g ls hj=>by obtain⟨u,h6,h7⟩:=h3 j _ _ hj;exact⟨u,h6,h7.kpN hn hk fun m hm=>hp m (vsNms_of (List.mem_of_getElem? hj) hm)⟩⟩
theorem SubL.slot {st all:St}:∀{l:St} (_:SubL st all l) (t:Nat),(getS l t=one .dead)∨(getS st t=getS l t∧bound all (getS l t).nms)
 |[],_,t=>.inl rfl
 |.slot s v::r,h,t=>by
  show(if s=t then v else getS r t)=one .dead∨(getS st t=(if s=t then v else getS r t)∧bound all (if s=t then v else getS r t).nms)
  by_cases e:s=t
  ·rw [if_pos e]
   subst e
   exact .inr ⟨h.1.1,h.1.2⟩
  ·rw [if_neg e]
   exact SubL.slot h.2 t
 |.blk n b::r,h,t=>SubL.slot (l:=r) h.2 t
 |.kill n::r,h,t=>h.elim
theorem SubL.blk {st all:St}:∀{l:St} (_:SubL st all l) {n:Nat} {b:Blk} (_:getB l n=some b),getB st n=some b∧bound all b.nms
 |[],_,n,b,hb=>by cases hb
 |.slot s v::r,h,n,b,hb=>SubL.blk (l:=r) h.2 hb
 |.blk m b0::r,h,n,b,hb=>by
  simp only [getB]at hb
  split at hb
  ·rename_i e
   cases hb
   subst e
   exact h.1
  ·exact SubL.blk h.2 hb
 |.kill n::r,h,_,_,_=>h.elim
theorem Inv.sub (h:Inv γ0 w0 N st a w η γ)(hs:Sub st' st):∃γ',Inv γ0 w0 N st' a w η γ':=by
 have hn:Nm (getB st) (getB st') η η (fun m=>(getB st' m).isSome=true):=by
  intro m b hm hb
  refine⟨rfl,?_⟩
  obtain⟨b',hb'⟩:=Option.isSome_iff_exists.1 hm
  have:=(SubL.blk hs hb').1
  rw [hb]at this
  cases this
  cases b with
  |arr fl e s rows=>exact⟨fl,rows,hb',rfl⟩
  |box ls=>exact⟨ls,hb'⟩
 let γ':Nat→Option Nat:=fun b=>match γ b with
  |some n=>if(getB st' n).isSome then some n else none
  |none=>none
 have hk:Kp w w γ γ':=⟨Nat.le_refl _,fun b _ hg=>⟨by simp only [γ',hg],rfl⟩⟩
 have hg:∀b n,γ b=some n→(getB st' n).isSome=true→γ' b=some n:=fun b n h1 h2=>by simp only [γ',h1,h2,if_true]
 refine⟨γ',{h with slots:=fun t=>?_,blks:=fun n b hb=>?_,live:=fun b n hb=>?_,low:=fun b hb hg0=>?_,pin:=fun h9 b ls hb hbx=>?_,pinA:=h.pinA.to fun _ fl e s rows hbx=>⟨rfl,fl,rows,(SubL.blk hs hbx).1,rfl⟩}⟩
 ·rcases SubL.slot hs t with h1|⟨h1,h2⟩
  ·rw [h1];exact RepV.one_iff.2 trivial
  ·have:=h.slots t
   rw [h1]at this
   exact this.kpN hn hk fun m hm=>bound_mem h2 hm
 ·obtain⟨h1,h2⟩:=SubL.blk hs hb
  have h3:=h.blks n b h1
  have hsome:(getB st' n).isSome=true:=by rw [hb];rfl
  cases b with
  |box ls=>
   obtain⟨b,us,t,g1,g2,g3,g4⟩:=h3
   exact⟨b,us,t,g1,hg _ _ g2 hsome,g3,g4.kpN hn hk fun m hm=>bound_mem h2 hm⟩
  |arr fl e s rows=>
   obtain⟨xs,g1,g2,g3,g4,g5⟩:=h3
   exact⟨xs,g1,g2.kp (hk.vw fun b hb=>⟨hg _ _ hb hsome,rfl⟩),g3,fun b hb=>hg _ _ (g4 b hb) hsome,g5.kp fun b hb=>hg _ _ hb hsome⟩
 ·cases hgb:γ b with
  |none=>simp [γ',hgb]at hb
  |some m=>
   simp only [γ',hgb]at hb
   split at hb
   ·rename_i hsome
    cases hb
    obtain⟨g1,g2,g3⟩:=h.live b n hgb
    refine⟨g1,g2.imp id fun g2=>?_,hsome⟩
    obtain⟨b',hb'⟩:=Option.isSome_iff_exists.1 hsome
    rw [(SubL.blk hs hb').1]at g2
    rw [hb']
    exact g2
   ·cases hb
 ·obtain⟨g1,g2⟩:=h.low b hb hg0
  exact⟨by simp only [γ',g1],g2⟩
 ·cases hgb:γ b with
  |none=>simp [γ',hgb]at hb
  |some m=>
   simp only [γ',hgb]at hb
   split at hb
   ·cases hb
    exact h.pin h9 b ls hgb (SubL.blk hs hbx).1
   ·cases hb
theorem R.sub (h:R γ0 w0 N st a w)(hs:Sub st' st):R γ0 w0 N st' a w:=by
 obtain⟨η,γ,h⟩:=h
 obtain⟨γ',h'⟩:=h.sub hs
 exact⟨η,γ',h'⟩
theorem W.sub {c:Code}{Q:Exit→Act→World→Prop}(hs:Sub st' st)(h:W P γ0 w0 N st' c Q):W P γ0 w0 N st c Q:=fun a w hR=>h a w (hR.sub hs)
end
end PS
section PT
open Classical in
noncomputable def mdl {α:Type}(ok:α→Prop)(enc:α→List Arg)(g:α→Res):List Arg→Option Res:=fun args=>if h:∃x,ok x∧enc x=args then some (g h.choose)else none
theorem mdl_eq {α:Type}{ok:α→Prop}{enc:α→List Arg}{g:α→Res}(inj:∀x y,enc x=enc y→x=y)(x:α)(h:ok x):mdl ok enc g (enc x)=some (g x):=by
 have he:∃y,ok y∧enc y=enc x:=⟨x,h,rfl⟩
 unfold mdl
 rw [dif_pos he,inj _ _ he.choose_spec.2]
theorem Sound.mdl {P:Program}{f:FuncId}{fn:Func}{c:Code}{N:Nat}{α:Type}{ok:α→Prop}{enc:α→List Arg}{g:α→Res}(hf:P.funcs[f]?=some fn)(hb:fn.body=some c)(hN:fn.ntmps=N)
  (h:∀x w,ok x→(enc x).length≤N∧W P none0 w N (initS 0 (enc x)) c (bodyPost P fn (Post w (g x)))):Sound P f (mdl ok enc g):=by
 refine Sound.of hf hb hN fun args r w hm=>?_
 unfold Go.Proofs.YtfgkfcfplodaoaaGreatDoor.mdl at hm
 split at hm
 ·rename_i he
  cases hm
  obtain⟨h1,h2⟩:=he.choose_spec
  have:=h _ w h1
  rw [h2]at this
  exact this
 ·cases hm
section
variable {P:Program}{γ0:Nat→Option Nat}{w0:World}{N:Nat}{st:St}{Q:Exit→Act→World→Prop}{X:Act→World→Prop}{y:Code}{i j:Nat}
theorem At.seqN (h:W P γ0 w0 N st y Q):At γ0 w0 N st .normal (Exit.then (y.wp P Q) Q):=h
theorem At.blkN (h:At γ0 w0 N st .normal Q):At γ0 w0 N st .normal (Exit.inBlock i Q):=h
theorem At.blkE (h:At γ0 w0 N st .normal Q):At γ0 w0 N st (.exit i) (Exit.inBlock i Q):=fun a w hR=>by
 show if i=i then _ else _
 rw [if_pos rfl]
 exact h a w hR
theorem At.blkX (hne:(i==j)=false)(h:At γ0 w0 N st (.exit i) Q):At γ0 w0 N st (.exit i) (Exit.inBlock j Q):=fun a w hR=>by
 show if i=j then _ else _
 rw [if_neg (by simpa using hne)]
 exact h a w hR
theorem At.blkR (h:At γ0 w0 N st .ret Q):At γ0 w0 N st .ret (Exit.inBlock i Q):=h
theorem At.thenX (h:At γ0 w0 N st (.exit i) Q):At γ0 w0 N st (.exit i) (Exit.then X Q):=h
theorem At.thenR (h:At γ0 w0 N st .ret Q):At γ0 w0 N st .ret (Exit.then X Q):=h
end
def Round {ι:Type}(I:ι→Prop)(J:ι→St)(m:ι→Nat)(i:ι)(γ0:Nat→Option Nat)(w0:World)(N:Nat)(a:Act)(w:World):Prop:=∃i':{i//I i},m i'.1<m i∧R γ0 w0 N (J i'.1) a w
theorem W.loopI {P:Program}{γ0:Nat→Option Nat}{w0:World}{N:Nat}{st:St}{Q:Exit→Act→World→Prop}{c:Code}{ι:Type}(I:ι→Prop)(J:ι→St)(m:ι→Nat)(i0:ι)(h0:I i0)(hs:Sub (J i0) st)
  (h:∀i,I i→W P γ0 w0 N (J i) c (Exit.then (Round I J m i γ0 w0 N) Q)):W P γ0 w0 N st (.loop c) Q:=
 W.sub hs (W.loop (fun i:{i//I i}=>J i.1) (fun i=>m i.1) ⟨i0,h0⟩ (fun i=>h i.1 i.2))
theorem At.roundI {γ0:Nat→Option Nat}{w0:World}{N:Nat}{st:St}{Q:Exit→Act→World→Prop}{ι:Type}{I:ι→Prop}{J:ι→St}{m:ι→Nat}{i:ι}(i':ι)(hI:I i')(hm:m i'<m i)(hs:Sub (J i') st):
  At γ0 w0 N st .normal (Exit.then (Round I J m i γ0 w0 N) Q):=
 fun a w hR=>⟨⟨i',hI⟩,hm,hR.sub hs⟩
end PT
section PU
section
variable {P:Program}{Γ:Models}{γ0:Nat→Option Nat}{w0:World}{N:Nat}{st st1:St}{Q:Exit→Act→World→Prop}
def WL (P:Program)(γ0:Nat→Option Nat)(w0:World)(N:Nat)(ops:Array Oper)(l:List Oper)(st:St)(Q:Exit→Act→World→Prop):Prop:=∀a w,R γ0 w0 N st a w→wpList P ops Q l a w
theorem W.ops {id:Nat}{l:List Oper}(h:WL P γ0 w0 N l.toArray l st Q):W P γ0 w0 N st (.region id l.toArray false) Q:=fun a w hR=>wp_region_lit (h a w hR)
theorem WL.nil {ops:Array Oper}(h:At γ0 w0 N st .normal Q):WL P γ0 w0 N ops [] st Q:=fun a w hR=>wpList_nil (h a w hR)
theorem WL.op (hΓ:GSound P Γ){ops:Array Oper}{r:List Oper}{dst:Option Tmp}{op:Op}{ty:TypeId}{pos:String}{after:Array Edge}
  (he:stepO P Γ N st dst op=some st1) (h:WL P γ0 w0 N ops r st1 Q):WL P γ0 w0 N ops (⟨dst,op,ty,pos,after,none⟩::r) st Q:=fun a w hR=>by
 refine wpList_plain rfl fun K hK=>?_
 exact stepO_sound hΓ hR he fun a' w' hR'=>hK _ _ (h a' w' hR')
theorem WL.opG (hΓ:GSound P Γ){ops:Array Oper}{r:List Oper}{dst:Option Tmp}{op:Op}{ty:TypeId}{pos:String}{after:Array Edge}{g:Nat×Bool}
  (hw:wantO ops st (some g)=some true) (he:stepO P Γ N st dst op=some st1) (h:WL P γ0 w0 N ops r st1 Q):WL P γ0 w0 N ops (⟨dst,op,ty,pos,after,some g⟩::r) st Q:=fun a w hR=>by
 refine wpList_step fun K hK=>?_
 obtain⟨η,γ,hI⟩:=id hR
 rw [wantO_sound (o:=⟨dst,op,ty,pos,after,some g⟩) hI hw,if_pos rfl]
 exact stepO_sound hΓ hR he fun a' w' hR'=>hK _ _ (h a' w' hR')
theorem WL.opF {ops:Array Oper}{r:List Oper}{d:Nat}{op:Op}{ty:TypeId}{pos:String}{after:Array Edge}{g:Nat×Bool}
  (hw:wantO ops st (some g)=some false) (hN:d<N) (h:WL P γ0 w0 N ops r (.slot d (one .udf)::st) Q):WL P γ0 w0 N ops (⟨some d,op,ty,pos,after,some g⟩::r) st Q:=fun a w hR=>by
 refine wpList_step fun K hK=>?_
 obtain⟨η,γ,hI⟩:=id hR
 rw [wantO_sound (o:=⟨some d,op,ty,pos,after,some g⟩) hI hw,if_neg (by simp)]
 exact hK _ _ (h _ _ ⟨η,γ,hI.lost d hN⟩)
theorem getS_hit (t:Nat)(v:PV)(r:St):getS (.slot t v::r) t=v:=if_pos rfl
theorem getS_miss {s t:Nat}(h:s≠t)(v:PV)(r:St):getS (.slot s v::r) t=getS r t:=if_neg h
theorem getS_blk (n:Nat)(b:Blk)(r:St)(t:Nat):getS (.blk n b::r) t=getS r t:=rfl
theorem getS_kill (n:Nat)(r:St)(t:Nat):getS (.kill n::r) t=(getS r t).kill n:=rfl
theorem getS_nil (t:Nat):getS [] t=one .dead:=rfl
theorem getB_nil (t:Nat):getB [] t=none:=rfl
theorem getB_slot (s:Nat)(v:PV)(r:St)(n:Nat):getB (.slot s v::r) n=getB r n:=rfl
theorem getB_miss {m n:Nat}(h:m≠n)(b:Blk)(r:St):getB (.blk m b::r) n=getB r n:=if_neg h
theorem getB_kill0 (n:Nat)(r:St):getB (.kill n::r) n=none:=if_pos rfl
theorem getB_kill1 {m n:Nat}(h:m≠n)(r:St):getB (.kill m::r) n=(getB r n).map (Blk.kill m):=if_neg h
theorem ev_tmp (st:St)(t:Nat):ev st (.tmp t)=getS st t:=rfl
theorem ev_int (st:St)(k:IntKind)(n:Int):ev st (.const (.int k n))=one (.sc (.int k n)):=rfl
theorem ev_bool (st:St)(b:Bool):ev st (.const (.bool b))=one (.sc (.bool b)):=rfl
theorem ev_str (st:St)(b:ByteArray):ev st (.const (.string b))=one (.sc (.string b)):=rfl
theorem ev_nil (st:St):ev st (.const (.slice none 0 0))=one .nil:=rfl
theorem ev_agg (st:St)(l:List Value):ev st (.const (.agg l.toArray))=.comp true (l.map cl):=by show PV.comp true (l.toArray.toList.map cl)=_;simp
theorem cl_int (k:IntKind)(n:Int):cl (.int k n)=.sc (.int k n):=rfl
theorem cl_bool (b:Bool):cl (.bool b)=.sc (.bool b):=rfl
theorem cl_str (b:ByteArray):cl (.string b)=.sc (.string b):=rfl
theorem cl_nil:cl (.slice none 0 0)=.nil:=rfl
theorem putV_some {N:Nat}{st:St}{d:Nat}{v:PV}(h:d<N):putV N st d (some v)=some (.slot d v::st):=if_pos h
theorem step_move (d:Nat)(x:Operand):stepO P Γ N st (some d) (.move x)=putV N st d (some (ev st x)):=rfl
theorem step_assign (d:Nat)(x:Operand):stepO P Γ N st (some d) (.assign x)=putV N st d (some (ev st x)):=rfl
theorem step_pick (d:Nat)(c x y:Operand):stepO P Γ N st (some d) (.pick c x y)=putV N st d (pickE (ev st c) (ev st x) (ev st y)):=rfl
theorem step_load (d:Nat)(t:TypeId)(x:Operand):stepO P Γ N st (some d) (.load t x)=putV N st d (loadE P st t (ev st x)):=rfl
theorem step_nilCheck (d:Nat)(x:Operand):stepO P Γ N st (some d) (.nilCheck x)=putV N st d (nilE (ev st x)):=rfl
theorem step_binOp (d:Nat)(op:BinOp)(t u:TypeId)(x y:Operand):stepO P Γ N st (some d) (.binOp op t x y u)=putV N st d (binE P op t (ev st x) (ev st y)):=rfl
theorem step_unOp (d:Nat)(op:UnOp)(t:TypeId)(x:Operand):stepO P Γ N st (some d) (.unOp op t x)=putV N st d (scal (fun a _=>pun op a) (ev st x) (ev st x)):=rfl
theorem step_convert (d:Nat)(s t:TypeId)(x:Operand):stepO P Γ N st (some d) (.convert s t x)=putV N st d (convE P st s t (ev st x)):=rfl
theorem step_slice (d:Nat)(t:TypeId)(x:Operand)(lo hi:Option Operand):stepO P Γ N st (some d) (.slice t x lo hi none)=putV N st d (sliceE P st t (ev st x) (optE st lo) (optE st hi)):=rfl
theorem step_fieldAddr (d:Nat)(s:TypeId)(x:Operand)(f:Nat):stepO P Γ N st (some d) (.fieldAddr s x f)=putV N st d (fieldAddrE P s f (ev st x)):=rfl
theorem step_field (d:Nat)(s:TypeId)(x:Operand)(f:Nat):stepO P Γ N st (some d) (.field s x f)=putV N st d (fieldE P s f (ev st x)):=rfl
theorem step_indexAddr (d:Nat)(t:TypeId)(x i:Operand):stepO P Γ N st (some d) (.indexAddr t x i)=putV N st d (indexAddrE P st t (ev st x) (ev st i)):=rfl
theorem step_index (d:Nat)(t:TypeId)(x i:Operand):stepO P Γ N st (some d) (.index t x i)=putV N st d (indexE P t (ev st x) (ev st i)):=rfl
theorem step_extract (d:Nat)(x:Operand)(i:Nat):stepO P Γ N st (some d) (.extract x i)=putV N st d (tupE i (ev st x)):=rfl
theorem step_len (d:Nat)(t:TypeId)(x:Operand):stepO P Γ N st (some d) (.call ⟨.builtin .len, #[x], #[t]⟩)=putV N st d ((lenO P st t (ev st x)).map fun n=>one (.sc (.int .i64 n))):=rfl
theorem step_min (d:Nat)(ts:Array TypeId)(x y:Operand):stepO P Γ N st (some d) (.call ⟨.builtin .min, #[x,y],ts⟩)=putV N st d (minE false (ev st x) (ev st y)):=rfl
theorem step_max (d:Nat)(ts:Array TypeId)(x y:Operand):stepO P Γ N st (some d) (.call ⟨.builtin .max, #[x,y],ts⟩)=putV N st d (minE true (ev st x) (ev st y)):=rfl
theorem step_alloc (d:Nat)(t:TypeId):stepO P Γ N st (some d) (.alloc t)=if d<N then allocE P st d t else none:=rfl
theorem step_box (d:Nat)(t:TypeId)(x:Operand):stepO P Γ N st (some d) (.box t x)=if d<N then boxE st d x else none:=rfl
theorem step_lit (d:Nat)(t:TypeId)(n:Nat)(l:List (Nat×Operand)):stepO P Γ N st (some d) (.buildSlice t n l.toArray)=if d<N then litE P st d t n l else none:=by
 show(if d<N then litE P st d t n l.toArray.toList else none)=_
 simp
theorem step_app (d:Nat)(t:TypeId)(x y:Operand):stepO P Γ N st (some d) (.call ⟨.builtin .append, #[x,y], #[t,t]⟩)=if d<N then appE P st d t x y else none:=by
 show(if t=t∧d<N then appE P st d t x y else none)=_
 simp
theorem step_build (d:Nat)(t:TypeId)(l:List (Nat×Operand)):stepO P Γ N st (some d) (.build t l.toArray)=putV N st d (buildE P st t l):=by
 show putV N st d (buildE P st t l.toArray.toList)=_
 simp
theorem step_fn (d:Nat)(f:FuncId)(l:List Operand)(ts:Array TypeId):stepO P Γ N st (some d) (.call ⟨.value (.func f),l.toArray,ts⟩)=if d<N then callG Γ st d f l else none:=by
 show(if d<N then callG Γ st d f l.toArray.toList else none)=_
 simp
theorem step_fnv (d:Nat)(t:Nat)(l:List Operand)(ts:Array TypeId):stepO P Γ N st (some d) (.call ⟨.value (.tmp t),l.toArray,ts⟩)=if d<N then callV Γ st d (getS st t) l else none:=by
 show(if d<N then callV Γ st d (ev st (.tmp t)) l.toArray.toList else none)=_
 simp [ev]
theorem step_makeFunc (d:Nat)(f:FuncId)(l:List Operand):stepO P Γ N st (some d) (.makeFunc (.func f) #[] l.toArray)=putV N st d ((capsE (l.map (ev st))).map fun ns=>one (.fn f ns)):=by
 show putV N st d (if(#[]:Array Operand).size=0 then(capsE (l.toArray.toList.map (ev st))).map fun ns=>one (.fn f ns)else none)=_
 simp
theorem ev_func (st:St)(f:FuncId):ev st (.func f)=one (.fn f []):=rfl
theorem step_mk (d:Nat)(t:TypeId)(n c:Operand):stepO P Γ N st (some d) (.makeSlice t n c)=if d<N then makeE P st d t (ev st n) (ev st c)else none:=rfl
theorem step_store (t:TypeId)(x y:Operand):stepO P Γ N st none (.store t x y)=storeE P st t x y:=rfl
theorem ar_in {n:Int}(h1: -9223372036854775808≤n)(h2:n≤9223372036854775807):ar .i64 n=some (.int .i64 n):=by unfold ar;rw [wrap_i64 n ⟨h1,h2⟩]
theorem ar_u32 (n:Int):ar .u32 n=some (.int .u32 (IntKind.u32.wrap n)):=rfl
theorem ar_u64 (n:Int):ar .u64 n=some (.int .u64 (IntKind.u64.wrap n)):=rfl
theorem ar_u8 (n:Int):ar .u8 n=some (.int .u8 (IntKind.u8.wrap n)):=rfl
theorem want_udf {ops:Array Oper}{j d:Nat}{want:Bool}(hd:(ops[j]?).bind (·.dst)=some d)(hs:getS st d=one .udf):wantO ops st (some (j,want))=some false:=by
 unfold wantO
 simp only [hd,hs]
theorem want_of {ops:Array Oper}{j d:Nat}{want b:Bool}(hd:(ops[j]?).bind (·.dst)=some d)(hs:getS st d=one (.sc (.bool b))):wantO ops st (some (j,want))=some (b==want):=by
 unfold wantO
 simp only [hd,hs]
end
end PU
section PV
def pickE':List (List Entry)→Nat→(Nat→Bool)→St→St
 |[],_,_,st=>st
 |E::r,i,S,st=>pickE' r (i+1) S (if S i then E++st else st)
def noKill:List Entry→Bool
 |[]=>true
 |.kill _::_=>false
 |_::r=>noKill r
def hasS:List Entry→Nat→Bool
 |[],_=>false
 |.slot s _::r,t=>s==t||hasS r t
 |_::r,t=>hasS r t
def hasB:List Entry→Nat→Bool
 |[],_=>false
 |.blk n _::r,t=>n==t||hasB r t
 |_::r,t=>hasB r t
theorem getS_app:∀{E:List Entry} (_:noKill E=true) (st st':St) (t:Nat),(hasS E t=true→getS (E++st) t=getS (E++st') t)∧(hasS E t=false→getS (E++st) t=getS st t)
 |[],_,st,st',t=>⟨fun h=>(by cases h),fun _=>rfl⟩
 |.slot s v::r,hk,st,st',t=>by
  have ih:=getS_app (E:=r) hk st st' t
  by_cases e:s=t
  ·subst e
   refine⟨fun _=>by rw [List.cons_append,List.cons_append,getS_hit,getS_hit],fun h=>by simp [hasS]at h⟩
  ·have e':(s==t)=false:=by simpa using e
   simp only [hasS,e',Bool.false_or,List.cons_append,getS_miss e]
   exact ih
 |.blk n b::r,hk,st,st',t=>getS_app (E:=r) hk st st' t
 |.kill n::r,hk,st,st',t=>by cases hk
theorem getB_app:∀{E:List Entry} (_:noKill E=true) (st st':St) (t:Nat),(hasB E t=true→getB (E++st) t=getB (E++st') t∧(getB (E++st) t).isSome=true)∧(hasB E t=false→getB (E++st) t=getB st t)
 |[],_,st,st',t=>⟨fun h=>(by cases h),fun _=>rfl⟩
 |.slot s v::r,hk,st,st',t=>getB_app (E:=r) hk st st' t
 |.blk n b::r,hk,st,st',t=>by
  have ih:=getB_app (E:=r) hk st st' t
  by_cases e:n=t
  ·subst e
   refine⟨fun _=>by rw [List.cons_append,List.cons_append,getB_hit,getB_hit];exact⟨rfl,rfl⟩,fun h=>by simp [hasB]at h⟩
  ·have e':(n==t)=false:=by simpa using e
   simp only [hasB,e',Bool.false_or,List.cons_append,getB_miss e]
   exact ih
 |.kill n::r,hk,st,st',t=>by cases hk
def distinct:List (List Entry)→Prop
 |[]=>True
 |E::r=>noKill E=true∧(∀E'∈r,(∀t,hasS E t=true→hasS E' t=false)∧(∀t,hasB E t=true→hasB E' t=false))∧distinct r
theorem pick_S_none {t:Nat}:∀(Es:List (List Entry)) (i:Nat) (S:Nat→Bool) (st:St),distinct Es→(∀(j:Nat) E,Es[j]?=some E→S (i+j)=true→hasS E t=false)→getS (pickE' Es i S st) t=getS st t
 |[],i,S,st,_,_=>rfl
 |E::r,i,S,st,hd,h=>by
  unfold pickE'
  rw [pick_S_none r (i+1) S _ hd.2.2 (fun j E' hj hs=>h (j+1) E' (by simpa using hj) (by rw [show i+(j+1)=i+1+j by omega];exact hs))]
  split
  ·rename_i hs
   exact(getS_app hd.1 st st t).2 (h 0 E rfl hs)
  ·rfl
theorem pick_S_some {t:Nat}:∀(Es:List (List Entry)) (i:Nat) (S:Nat→Bool) (st:St),distinct Es→∀(j:Nat) E,Es[j]?=some E→S (i+j)=true→hasS E t=true→getS (pickE' Es i S st) t=getS E t
 |[],i,S,st,_,j,E,hj,_,_=>by simp at hj
 |E0::r,i,S,st,hd,j,E,hj,hs,hh=>by
  unfold pickE'
  cases j with
  |zero=>
   simp only [List.getElem?_cons_zero,Option.some.injEq]at hj
   subst hj
   rw [pick_S_none r (i+1) S _ hd.2.2 (fun j E' hj' _=>(hd.2.1 E' (List.mem_of_getElem? hj')).1 t hh)]
   rw [if_pos (show S i=true from hs)]
   have:=(getS_app hd.1 st [] t).1 hh
   rw [List.append_nil]at this
   exact this
  |succ j=>exact pick_S_some r (i+1) S _ hd.2.2 j E (by simpa using hj) (by rw [show i+1+j=i+(j+1)by omega];exact hs) hh
theorem pick_B_none {t:Nat}:∀(Es:List (List Entry)) (i:Nat) (S:Nat→Bool) (st:St),distinct Es→(∀(j:Nat) E,Es[j]?=some E→S (i+j)=true→hasB E t=false)→getB (pickE' Es i S st) t=getB st t
 |[],i,S,st,_,_=>rfl
 |E::r,i,S,st,hd,h=>by
  unfold pickE'
  rw [pick_B_none r (i+1) S _ hd.2.2 (fun j E' hj hs=>h (j+1) E' (by simpa using hj) (by rw [show i+(j+1)=i+1+j by omega];exact hs))]
  split
  ·rename_i hs
   exact(getB_app hd.1 st st t).2 (h 0 E rfl hs)
  ·rfl
theorem pick_B_some {t:Nat}:∀(Es:List (List Entry)) (i:Nat) (S:Nat→Bool) (st:St),distinct Es→∀(j:Nat) E,Es[j]?=some E→S (i+j)=true→hasB E t=true→getB (pickE' Es i S st) t=getB E t
 |[],i,S,st,_,j,E,hj,_,_=>by simp at hj
 |E0::r,i,S,st,hd,j,E,hj,hs,hh=>by
  unfold pickE'
  cases j with
  |zero=>
   simp only [List.getElem?_cons_zero,Option.some.injEq]at hj
   subst hj
   rw [pick_B_none r (i+1) S _ hd.2.2 (fun j E' hj' _=>(hd.2.1 E' (List.mem_of_getElem? hj')).2 t hh)]
   rw [if_pos (show S i=true from hs)]
   have:=((getB_app hd.1 st [] t).1 hh).1
   rw [List.append_nil]at this
   exact this
  |succ j=>exact pick_B_some r (i+1) S _ hd.2.2 j E (by simpa using hj) (by rw [show i+1+j=i+(j+1)by omega];exact hs) hh
theorem distinct_kill:∀{Es:List (List Entry)} (_:distinct Es) {j:Nat} {E:List Entry} (_:Es[j]?=some E),noKill E=true
 |E0::r,hd,0,E,hj=>by
  simp only [List.getElem?_cons_zero,Option.some.injEq]at hj
  subst hj
  exact hd.1
 |E0::r,hd,j+1,E,hj=>distinct_kill hd.2.2 (by simpa using hj)
theorem distinct_ne:∀{Es:List (List Entry)} (_:distinct Es) {i j:Nat} {E E':List Entry} (_:Es[i]?=some E) (_:Es[j]?=some E') (_:i≠j),(∀t,hasS E t=true→hasS E' t=false)∧(∀t,hasB E t=true→hasB E' t=false)
 |E0::r,hd,0,0,E,E',h1,h2,hne=>absurd rfl hne
 |E0::r,hd,0,j+1,E,E',h1,h2,hne=>by
  simp only [List.getElem?_cons_zero,Option.some.injEq]at h1
  subst h1
  exact hd.2.1 E' (List.mem_of_getElem? (by simpa using h2))
 |E0::r,hd,i+1,0,E,E',h1,h2,hne=>by
  simp only [List.getElem?_cons_zero,Option.some.injEq]at h2
  subst h2
  have h3:=hd.2.1 E (List.mem_of_getElem? (by simpa using h1))
  refine⟨fun t ht=>?_,fun t ht=>?_⟩
  ·cases h4:hasS E0 t with
   |false=>rfl
   |true=>rw [h3.1 t h4]at ht;cases ht
  ·cases h4:hasB E0 t with
   |false=>rfl
   |true=>rw [h3.2 t h4]at ht;cases ht
 |E0::r,hd,i+1,j+1,E,E',h1,h2,hne=>distinct_ne hd.2.2 (by simpa using h1) (by simpa using h2) (by omega)
section
variable {P:Program}{st st':St}
def LeB (st st':St):Prop:=∀m b,getB st m=some b→getB st' m=some b
theorem loadE_mono (hB:LeB st st'){t:TypeId}{x v:PV}(h:loadE P st t x=some v):loadE P st' t x=some v:=by
 unfold loadE at h⊢
 split at h
 ·split at h
  ·rename_i hb;simp only [hB _ _ hb];exact h
  ·cases h
 ·split at h
  ·rename_i hb;simp only [hB _ _ hb];exact h
  ·cases h
 ·exact h
 ·cases h
theorem indexSlE_mono (hB:LeB st st'){t:TypeId}{x y v:PV}(h:indexSlE P st t x y=some v):indexSlE P st' t x y=some v:=by
 unfold indexSlE at h⊢
 split at h
 ·split at h
  ·rename_i he
   split at h
   ·rename_i hs
    try simp only [he,hs]
    split at h
    ·exact h
    ·split at h
     ·rename_i hb;simp only [hB _ _ hb];exact h
     ·cases h
    ·split at h
     ·rename_i hb;simp only [hB _ _ hb];exact h
     ·cases h
    ·exact h
    ·cases h
   ·cases h
  ·cases h
 ·cases h
theorem indexAddrE_mono (hB:LeB st st'){t:TypeId}{x y v:PV}(h:indexAddrE P st t x y=some v):indexAddrE P st' t x y=some v:=by
 unfold indexAddrE at h⊢
 split
 ·rename_i hc;rw [if_pos hc]at h;exact h
 ·rename_i hc;rw [if_neg hc]at h;exact indexSlE_mono hB h
theorem lenE_mono (hB:LeB st st'){x:PV}{n:Int}(h:lenE st x=some n):lenE st' x=some n:=by
 unfold lenE at h⊢
 split at h
 ·split at h
  ·exact h
  ·exact h
  ·split at h
   ·rename_i hb;simp only [hB _ _ hb];exact h
   ·cases h
  ·exact h
  ·exact h
  ·exact h
  ·cases h
 ·cases h
theorem lenO_mono (hB:LeB st st'){t:TypeId}{x:PV}{n:Int}(h:lenO P st t x=some n):lenO P st' t x=some n:=by
 unfold lenO at h⊢
 split at h
 ·exact h
 ·split at h
  ·rename_i he
   try simp only [he]
   exact lenE_mono hB h
  ·cases h
theorem subE_mono (hB:LeB st st'){s lo hi:Nat}{l v:PL}(h:subE st s l lo hi=some v):subE st' s l lo hi=some v:=by
 unfold subE at h⊢
 split at h
 ·exact h
 ·exact h
 ·split at h
  ·rename_i hb;simp only [hB _ _ hb];exact h
  ·cases h
 ·split at h
  ·rename_i hb;simp only [hB _ _ hb];exact h
  ·cases h
 ·cases h
theorem sliceE_mono (hB:LeB st st'){t:TypeId}{x v:PV}{lo hi:Option PV}(h:sliceE P st t x lo hi=some v):sliceE P st' t x lo hi=some v:=by
 unfold sliceE at h⊢
 split at h
 ·exact h
 ·split at h
  ·rename_i he
   split at h
   ·rename_i hs hl
    try simp only [he,hs,lenE_mono hB hl]
    split at h
    ·rename_i h1 h2
     try simp only [h1,h2]
     split at h
     ·rename_i hc
      rw [if_pos hc]
      obtain⟨y,h3,h4⟩:=oms h
      rw [subE_mono hB h3]
      exact congrArg some h4
     ·cases h
    ·cases h
   ·cases h
  ·cases h
 ·cases h
theorem convE_mono (hB:LeB st st'){s t:TypeId}{x v:PV}(h:convE P st s t x=some v):convE P st' s t x=some v:=by
 unfold convE at h⊢
 split at h
 ·exact h
 ·split at h
  ·rename_i he
   try simp only [he]
   split at h
   ·rename_i hi
    try simp only [hi]
    split at h
    ·rename_i hc
     rw [if_pos hc]
     split at h
     ·exact h
     ·exact h
     ·split at h
      ·rename_i hb;simp only [hB _ _ hb];exact h
      ·cases h
     ·cases h
    ·cases h
   ·cases h
  ·cases h
 ·cases h
theorem leafO_mono (hB:LeB st st'){l:PL}{x:Leaf}(h:leafO st l=some x):leafO st' l=some x:=by
 unfold leafO at h⊢
 split at h
 ·exact h
 ·exact h
 ·exact h
 ·split at h
  ·rename_i hb;simp only [hB _ _ hb];exact h
  ·cases h
 ·split at h
  ·rename_i hb;simp only [hB _ _ hb];exact h
  ·cases h
 ·exact h
 ·cases h
theorem leafsO_mono (hB:LeB st st'):∀{ls:List PL} {xs:List Leaf},leafsO st ls=some xs→leafsO st' ls=some xs
 |[],xs,h=>h
 |l::r,xs,h=>by
  unfold leafsO at h⊢
  split at h
  ·rename_i h1 h2
   simp only [leafO_mono hB h1,leafsO_mono hB h2]
   exact h
  ·cases h
theorem boxesO_mono (hB:LeB st st'):∀{ns:List Nat} {xs:List (List Leaf)},boxesO st ns=some xs→boxesO st' ns=some xs
 |[],xs,h=>h
 |n::r,xs,h=>by
  unfold boxesO at h⊢
  split at h
  ·rename_i hb
   simp only [hB _ _ hb]
   split at h
   ·rename_i h1 h2
    simp only [leafsO_mono hB h1,boxesO_mono hB h2]
    exact h
   ·cases h
  ·cases h
theorem argO_mono (hB:LeB st st'){x:PV}{r:Arg}(h:argO st x=some r):argO st' x=some r:=by
 unfold argO at h⊢
 split at h
 ·obtain⟨y,h1,h2⟩:=oms h
  rw [leafsO_mono hB h1]
  exact congrArg some h2
 ·split at h
  ·split at h
   ·rename_i hb
    simp only [hB _ _ hb]
    obtain⟨y,h1,h2⟩:=oms h
    rw [leafsO_mono hB h1]
    exact congrArg some h2
   ·cases h
  ·split at h
   ·rename_i hb;simp only [hB _ _ hb];exact h
   ·cases h
  ·exact h
  ·exact h
  ·obtain⟨y,h1,h2⟩:=oms h
   rw [boxesO_mono hB h1]
   exact congrArg some h2
  ·obtain⟨y,h5,h6⟩:=oms h
   rw [leafO_mono hB h5]
   exact congrArg some h6
 ·cases h
end
end PV
end Go.Proofs.YtfgkfcfplodaoaaGreatDoor
