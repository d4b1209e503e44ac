
import Derived.Test.YtfgkfcfplodaoaaGreatDoorG8
set_option linter.unusedSimpArgs false
set_option linter.unusedVariables false
set_option maxRecDepth 100000
namespace Go.Proofs.YtfgkfcfplodaoaaGreatDoor
open Go Go.RowKit
def own1 (b:Nat):Nat→Option Nat:=fun k=>if k=b then some 999 else none
theorem own1_same (b:Nat):own1 b b=some 999:=if_pos rfl
theorem own1_other {b k:Nat}(h:k≠b):own1 b k=none:=if_neg h
theorem own1_none {b k:Nat}(h:own1 b k=none):k≠b:=fun e=>by rw [e,own1_same]at h;cases h
theorem own1_some {b k n:Nat}(h:own1 b k=some n):k=b:=by
 by_cases e:k=b
 ·exact e
 ·rw [own1_other e]at h;cases h
def putO (w:World)(g:Nat)(o:Obj):World:={w with heap:=w.heap.setIfInBounds g o}
theorem putO_size (w:World)(g:Nat)(o:Obj):(putO w g o).heap.size=w.heap.size:=by simp [putO]
theorem putO_same {w:World}{g:Nat}(o:Obj)(h:g<w.heap.size):(putO w g o).heap[g]?=some o:=by simp [putO,h]
theorem putO_other {w:World}{g k:Nat}(o:Obj)(h:k≠g):(putO w g o).heap[k]?=w.heap[k]?:=by
 simp only [putO]
 rw [Array.getElem?_setIfInBounds_ne (fun e=>h e.symm)]
def RepD (w:World)(γ:Nat→Option Nat):Arg→Value→Prop
 |.val true ls,u=>∃us:List Value,u=.agg us.toArray∧RepLs w γ ls us
 |.val false ls,u=>∃l,ls=[l]∧RepL w γ l u
 |_,_=>False
def RepDs (w:World)(γ:Nat→Option Nat)(args:List Arg)(vs:List Value):Prop:=vs.length=args.length∧∀(j:Nat) (x:Arg),args[j]?=some x→∃v,vs[j]?=some v∧RepD w γ x v
def exB:PL→Bool
 |.sc _=>true
 |.xl _ _=>true
 |_=>false
def exV:PL→Value
 |.sc v=>v
 |.xl v _=>v
 |_=>undef
def ExOk (w:World)(γ:Nat→Option Nat):PL→Prop
 |.sc v=>v.oneCell'=true
 |.xl v rows=>RepL w γ (.sl rows) v
 |_=>False
theorem rep_ex {hb:Nat→Option Blk}{η:Nat→Value}{γ:Nat→Option Nat}{w:World}{l:PL}{u:Value}(hl:exB l=true)(h:RepP hb η γ w l u):u=exV l∧ExOk w γ l:=by
 cases l with
 |sc v=>exact h
 |xl v rows=>exact⟨h.1,h.1▸h.2⟩
 |_=>cases hl
theorem ex_rep {hb:Nat→Option Blk}{η:Nat→Value}{γ:Nat→Option Nat}{w:World}{l:PL}(h:ExOk w γ l):RepP hb η γ w l (exV l):=by
 cases l with
 |sc v=>exact⟨rfl,h⟩
 |xl v rows=>exact⟨rfl,h⟩
 |_=>exact h.elim
theorem ExOk.kp {w w':World}{γ γ':Nat→Option Nat}(hk:Kp w w' γ γ'){l:PL}(h:ExOk w γ l):ExOk w' γ' l:=by
 cases l with
 |sc v=>exact h
 |xl v rows=>exact RepL.kp hk h
 |_=>exact h.elim
def Kept (ls ls':List PL):Prop:=∀l∈ls',l∈ls∨∃v:Value,l=.sc v∧v.oneCell'=true
theorem Kept.ok {w:World}{γ:Nat→Option Nat}{ls ls':List PL}(h:Kept ls ls')(h1:∀l∈ls,ExOk w γ l):∀l∈ls',ExOk w γ l:=fun l hl=>by
 rcases h l hl with h|⟨v,rfl,hv⟩
 ·exact h1 l h
 ·exact hv
def SoundC (P:Program)(f:FuncId){α β:Type}(ok:α→Prop)(us:α→List PL)(enc:α→List Arg)(rel:α→β→Prop)(us':α→β→List PL)(res:α→β→Res):Prop:=
 (∀x y,ok x→rel x y→Kept (us x) (us' x y))∧
 ∀x b t vs w,ok x→GlobOk (own1 b) w→(∀l∈us x,ExOk w (own1 b) l)→w.heap[b]?=some (.cells ((us x).map exV).toArray t (0,0))→RepDs w (own1 b) (enc x) vs→
  Calls P f (Value.pointer (some ⟨b,0,none⟩)::vs).toArray w fun e w'=>∃y t',rel x y∧Post (putO w b (.cells ((us' x y).map exV).toArray t' (0,0))) (res x y) e w'
def SoundR (P:Program)(f:FuncId){α β:Type}(ok:α→Prop)(enc:α→List Arg)(rel:α→β→Prop)(res:α→β→Res):Prop:=
 ∀x vs w,ok x→GlobOk none0 w→RepAs w (enc x) vs→Calls P f vs.toArray w fun e w'=>∃y,rel x y∧Post w (res x y) e w'
def SoundB (P:Program)(f:FuncId){α β:Type}(ok:α→Prop)(ins:α→List PL)(rel:α→β→Prop)(us':α→β→List PL):Prop:=
 (∀x y,ok x→rel x y→Kept (ins x) (us' x y))∧
 ∀x w,ok x→GlobOk none0 w→(∀l∈ins x,ExOk w none0 l)→
  Calls P f ((ins x).map exV).toArray w fun e w'=>∃y b t,rel x y∧e=.returned (.pointer (some ⟨b,0,none⟩))∧Below w.heap.size w w'∧w.heap.size≤b∧w'.heap[b]?=some (.cells ((us' x y).map exV).toArray t (0,0))
section
variable {P:Program}{Γ:Models}{γ0:Nat→Option Nat}{w0:World}{N:Nat}{st st1:St}{a:Act}{w:World}{η:Nat→Value}{γ:Nat→Option Nat}{Q:Exit→Act→World→Prop}
theorem Inv.turnO (h:Inv γ0 w0 N st a w η γ)(n:Nat)(ls0 ls1:List PL)(hb0:getB st n=some (.box ls0))(g:Nat)(hg:γ g=some n)(o:Obj)
  (hB:Nm (getB st) (getB (.blk n (.box ls1)::st)) η η (fun _=>True)→Kp w (putO w g o) γ γ→RepB (getB (.blk n (.box ls1)::st)) η γ (putO w g o) n (.box ls1)):
  Inv γ0 w0 N (.blk n (.box ls1)::st) a (putO w g o) η γ:=by
 have hold:∀k,k≠g→(putO w g o).heap[k]?=w.heap[k]?:=fun k hk=>putO_other o hk
 have hk:Kp w (putO w g o) γ γ:=⟨by rw [putO_size];exact Nat.le_refl _,fun k hk hgk=>⟨hgk,hold k (fun e=>by rw [e,hg]at hgk;cases hgk)⟩⟩
 have hget:∀m,m≠n→getB (.blk n (.box ls1)::st) m=getB st m:=fun m hm=>if_neg (fun e=>hm e.symm)
 have hn:Nm (getB st) (getB (.blk n (.box ls1)::st)) η η (fun _=>True):=by
  intro m b' _ hb
  refine⟨rfl,?_⟩
  by_cases hm:m=n
  ·subst hm
   rw [hb0]at hb
   cases hb
   exact⟨ls1,if_pos rfl⟩
  ·cases b' with
   |arr fl e s rows=>exact⟨fl,rows,by rw [hget m hm];exact hb,rfl⟩
   |box ls=>exact⟨ls,by rw [hget m hm];exact hb⟩
 have hB:=hB hn hk
 have hgm:∀m b0,m≠n→γ b0=some m→γ b0=some m∧(putO w g o).heap[b0]?=w.heap[b0]?:=fun m b0 hm hb0=>⟨hb0,hold b0 (fun e=>by rw [e,hg]at hb0;cases hb0;exact hm rfl)⟩
 refine {h with slots:=fun t=>(h.slots t).kp hn hk,blks:=fun m b' hb=>?_,live:=fun b0 m hb=>?_,low:=fun b0 hb hg0=>?_,size:=by have:=h.size;rw [putO_size];omega,os:=h.os,tape:=h.tape,output:=h.output,pin:=fun h9 b2 ls hb hbx=>?_,pinA:=h.pinA.to fun h9 fl e s rows hbx=>⟨rfl,fl,rows,?_,rfl⟩}
 ·by_cases hm:m=n
  ·subst hm
   rw [getB_hit]at hb
   cases hb
   exact hB
  ·rw [hget m hm]at hb
   have h1:=h.blks m b' hb
   cases b' with
   |box ls=>exact RepB.kp_box hn hk h1 rfl (hgm m · hm)
   |arr fl e s rows=>exact RepB.kp_arr hk h1 rfl (hgm m · hm)
 ·obtain⟨h1,h2,h3⟩:=h.live b0 m hb
  refine⟨by rw [putO_size];omega,h2.imp id fun h2=>?_,?_⟩
  ·by_cases hm:m=n
   ·subst hm
    rw [hb0]at h2
    cases h2
   ·rw [hget m hm];exact h2
  ·by_cases hm:m=n
   ·subst hm;simp [getB]
   ·rw [hget m hm];exact h3
 ·obtain⟨h1,h2⟩:=h.low b0 hb hg0
  exact⟨h1,by rw [hold b0 (fun e=>by rw [e,hg]at h1;cases h1)];exact h2⟩
 ·by_cases hm:(999:Nat)=n
  ·subst hm
   exact h.pin h9 b2 ls0 hb hb0
  ·rw [hget 999 hm]at hbx
   exact h.pin h9 b2 ls hb hbx
 ·by_cases hm:(999:Nat)=n
  ·subst hm
   rw [getB_hit]at hbx
   cases hbx
  ·rw [hget 999 hm]at hbx
   exact hbx
def dataO (st:St)(n:Nat):PV→Option Arg
 |.comp g ls=>if g=true∨ls.length=1 then(if ls.all (fun l=>!l.names n)=true then(leafsO st ls).map (.val g)else none)else none
 |_=>none
def datasO (st:St)(n:Nat):List Operand→Option (List Arg)
 |[]=>some []
 |x::r=>match dataO st n (ev st x),datasO st n r with
  |some a,some b=>some (a::b)
  |_,_=>none
theorem dataO_sound (h:Inv γ0 w0 N st a w η γ){n b:Nat}(hb:γ b=some n){x:PV}{u:Value}{r:Arg}(hx:RepV (getB st) η γ w x u)(hr:dataO st n x=some r):RepD w (own1 b) r u:=by
 have hk:∀k,γ k=none→own1 b k=none:=fun k hk=>own1_other (fun e=>by rw [e,hb]at hk;cases hk)
 have hg:∀(ls:List PL),ls.all (fun l=>!l.names n)=true→∀k m,γ k=some m→(∃l∈ls,l=.all m∨∃o q,l=.ref m o q)→own1 b k=none:=by
  intro ls hall k m hm ⟨l,hl,he⟩
  have h1:=List.all_eq_true.1 hall l hl
  refine own1_other (fun e=>?_)
  rw [e,hb]at hm
  cases hm
  rcases he with rfl|⟨o,q,rfl⟩<;>simp [PL.names]at h1
 unfold dataO at hr
 split at hr
 ·rename_i g ls
  split at hr
  ·rename_i hc
   split at hr
   ·rename_i hall
    obtain⟨xs,h1,rfl⟩:=oms hr
    cases g with
    |true=>
     obtain⟨us,rfl,h2⟩:=hx
     exact⟨us,rfl,leafsO_sound h hk (hg ls hall) h2 h1⟩
    |false=>
     obtain⟨l,rfl,h2⟩:=hx
     unfold leafsO at h1
     split at h1
     ·rename_i x y e1 e2
      cases h1
      simp only [leafsO,Option.some.injEq]at e2
      subst e2
      exact⟨x,rfl,leafO_sound h hk (fun k m hm he=>hg [l] hall k m hm ⟨l,List.mem_cons_self,he⟩) h2 e1⟩
     ·cases h1
   ·cases hr
  ·cases hr
 ·cases hr
theorem datasO_sound (h:Inv γ0 w0 N st a w η γ){n b:Nat}(hb:γ b=some n):∀{xs:List Operand} {rs:List Arg} (_:datasO st n xs=some rs),RepDs w (own1 b) rs (xs.map a.eval)
 |[],rs,hr=>by
  simp only [datasO,Option.some.injEq]at hr
  subst hr
  exact⟨rfl,fun j x hj=>by simp at hj⟩
 |x::r,rs,hr=>by
  unfold datasO at hr
  split at hr
  ·rename_i y z h1 h2
   cases hr
   obtain⟨h3,h4⟩:=datasO_sound h hb h2
   refine⟨by simpa using h3,fun j k hj=>?_⟩
   cases j with
   |zero=>
    simp only [List.getElem?_cons_zero,Option.some.injEq]at hj
    subst hj
    exact⟨_,rfl,dataO_sound h hb (ev_sound h x) h1⟩
   |succ j=>
    obtain⟨v,h5,h6⟩:=h4 j k (by simpa using hj)
    exact⟨v,by simpa using h5,h6⟩
  ·cases hr
theorem RepPs.exs {hb:Nat→Option Blk}{us:List PL}{vs:List Value}(he:us.all exB=true)(h:RepPs hb η γ w us vs):vs=us.map exV∧∀l∈us,ExOk w γ l:=by
 obtain⟨h1,h2⟩:=h
 have key:∀j (l:PL),us[j]?=some l→vs[j]?=some (exV l)∧ExOk w γ l:=fun j l hj=>by
  obtain⟨u,h3,h4⟩:=h2 j l hj
  obtain⟨h5,h6⟩:=rep_ex (List.all_eq_true.1 he l (List.mem_of_getElem? hj)) h4
  exact⟨by rw [h3,h5],h6⟩
 refine⟨List.ext_getElem? fun j=>?_,fun v hv=>?_⟩
 ·rw [List.getElem?_map]
  cases hj:us[j]? with
  |some l=>exact(key j l hj).1
  |none=>
   rw [List.getElem?_eq_none_iff]at hj
   rw [Option.map_none,List.getElem?_eq_none_iff]
   omega
 ·obtain⟨j,hj⟩:=List.mem_iff_getElem?.1 hv
  exact(key j v hj).2
theorem RepPs.ofExs {hb:Nat→Option Blk}{us:List PL}(h:∀l∈us,ExOk w γ l):RepPs hb η γ w us (us.map exV):=by
 refine⟨by simp,fun j l hj=>?_⟩
 exact⟨exV l,by rw [List.getElem?_map,hj];rfl,ex_rep (h l (List.mem_of_getElem? hj))⟩
theorem enter_of {P:Program}{f:FuncId}(hf:Has P f){a:Act}{w:World}{args:List Operand}{ts:Array TypeId}{dst:Option Tmp}{ty:TypeId}{pos:String}{after:Array Edge}{g:Option (Nat×Bool)}:
  (execOp a.eval ⟨dst,.call ⟨.value (.func f),args.toArray,ts⟩,ty,pos,after,g⟩).run P w=.ok (.enter f (args.map a.eval).toArray) w:=by
 obtain⟨fn,hf1,hf2,hf3⟩:=hf
 unfold execOp
 have hf2':¬fn.name= "runtime.NumGoroutine" :=by simpa using hf2
 have hf3':¬fn.body=none:=fun e=>by rw [e]at hf3;cases hf3
 simp [resolve,Act.eval,Deferred.ofValue,invoke,callFunc,hf1,hf2',hf3',program,Sem.run]
theorem WL.opC {ops:Array Oper}{r:List Oper}{d f n:Nat}{x0:Operand}{xs:List Operand}{ts:Array TypeId}{ty:TypeId}{pos:String}{after:Array Edge}
  {α β:Type} {ok:α→Prop} {us:α→List PL} {enc:α→List Arg} {rel:α→β→Prop} {us':α→β→List PL} {res:α→β→Res}
  (hf:Has P f) (hs:SoundC P f ok us enc rel us' res) (x:α) (hok:ok x) (hN:d<N)
  (hp:ev st x0=one (.ptr n 0)) (hb:getB st n=some (.box (us x))) (he:(us x).all exB=true) (ha:datasO st n xs=some (enc x))
  (h:∀y,rel x y→WL P γ0 w0 N ops r (impE (.blk n (.box (us' x y))::st) d (res x y)) Q):
  WL P γ0 w0 N ops (⟨some d,.call ⟨.value (.func f),(x0::xs).toArray,ts⟩,ty,pos,after,none⟩::r) st Q:=fun a w hR=>by
 refine wpList_plain rfl fun K hK=>?_
 obtain⟨η,γ,hI⟩:=hR
 have h0:=ev_sound hI x0
 rw [hp]at h0
 obtain⟨ls,b,g1,g2,g3⟩:=RepV.one_iff.1 h0
 obtain⟨b',cs,t,g4,g5,g6,g7⟩:=hI.blks n _ hb
 rw [g2]at g4
 injection g4 with g4
 injection g4 with g4
 injection g4 with g4
 subst g4
 obtain⟨g8,g9⟩:=g7.exs he
 have hcs:cs=((us x).map exV).toArray:=by rw [←g8]
 have hlt:=heap_lt g6
 have hglob:GlobOk (own1 b) w:=fun g vs hg=>by
  obtain⟨k1,k2,k3⟩:=hI.globw g vs hg
  refine⟨own1_other (fun e=>?_),k2,k3⟩
  obtain⟨m1,m2,_⟩:=hI.glob g vs hg
  have:=(hI.low g m2 m1).1
  rw [e,g5]at this
  cases this
 have hkb:Kp w w γ (own1 b):=⟨Nat.le_refl _,fun k _ hk=>⟨own1_other (fun e=>by rw [e,g5]at hk;cases hk),rfl⟩⟩
 have hcall:=hs.2 x b t (xs.map a.eval) w hok hglob (fun l hl=>(g9 l hl).kp hkb) (by rw [←hcs];exact g6) (datasO_sound hI g5 ha)
 have hrun:=enter_of (P:=P) hf (a:=a) (w:=w) (args:=x0::xs) (ts:=ts) (dst:=some d) (ty:=ty) (pos:=pos) (after:=after) (g:=none)
 unfold Oper.wp
 rw [hrun]
 show Calls P f ((x0::xs).map a.eval).toArray w _
 rw [List.map_cons,g3]
 refine hcall.mono fun e w' ⟨y,t',hrel,hpost⟩=>?_
 have hI2:=hI.turnO n _ (us' x y) hb b g5 (.cells ((us' x y).map exV).toArray t' (0,0)) (fun hn hk=>⟨b,((us' x y).map exV).toArray,t',g2,g5,putO_same _ hlt,by
  simpa using RepPs.ofExs (((hs.1 x y hok hrel).ok fun l hl=>(g9 l hl).kp hk))⟩)
 obtain⟨u,rfl,h2⟩:=impE_sound hI2 hN hpost
 exact hK _ _ (h y hrel _ _ h2)
theorem WL.opR {ops:Array Oper}{r:List Oper}{d f:Nat}{xs:List Operand}{ts:Array TypeId}{ty:TypeId}{pos:String}{after:Array Edge}
  {α β:Type} {ok:α→Prop} {enc:α→List Arg} {rel:α→β→Prop} {res:α→β→Res}
  (hf:Has P f) (hs:SoundR P f ok enc rel res) (x:α) (hok:ok x) (hN:d<N) (ha:argsO st xs=some (enc x))
  (h:∀y,rel x y→WL P γ0 w0 N ops r (impE st d (res x y)) Q):
  WL P γ0 w0 N ops (⟨some d,.call ⟨.value (.func f),xs.toArray,ts⟩,ty,pos,after,none⟩::r) st Q:=fun a w hR=>by
 refine wpList_plain rfl fun K hK=>?_
 obtain⟨η,γ,hI⟩:=hR
 have hcall:=hs x _ w hok hI.globw (argsO_sound hI ha)
 have hrun:=enter_of (P:=P) hf (a:=a) (w:=w) (args:=xs) (ts:=ts) (dst:=some d) (ty:=ty) (pos:=pos) (after:=after) (g:=none)
 unfold Oper.wp
 rw [hrun]
 show Calls P f (xs.map a.eval).toArray w _
 refine hcall.mono fun e w' ⟨y,hrel,hpost⟩=>?_
 obtain⟨u,rfl,h2⟩:=impE_sound hI hN hpost
 exact hK _ _ (h y hrel _ _ h2)
def exactO (st:St):List Operand→Option (List PL)
 |[]=>some []
 |x::r=>match ev st x,exactO st r with
  |.comp false [l],some b=>if exB l=true then some (l::b)else none
  |_,_=>none
theorem exactO_sound (h:Inv γ0 w0 N st a w η γ):∀{xs:List Operand} {ls:List PL} (_:exactO st xs=some ls),xs.map a.eval=ls.map exV∧∀l∈ls,ExOk w γ l
 |[],vs,hr=>by
  simp only [exactO,Option.some.injEq]at hr
  subst hr
  exact⟨rfl,fun v hv=>by cases hv⟩
 |x::r,vs,hr=>by
  unfold exactO at hr
  split at hr
  ·rename_i l z h1 h2
   split at hr
   ·rename_i hl
    cases hr
    obtain⟨h3,h4⟩:=exactO_sound h h2
    have h5:=ev_sound h x
    rw [h1]at h5
    obtain⟨h6,h7⟩:=rep_ex hl (RepV.one_iff.1 h5)
    refine⟨by rw [List.map_cons,List.map_cons,h3,h6],fun u hu=>?_⟩
    rcases List.mem_cons.1 hu with rfl|hu
    ·exact h7
    ·exact h4 u hu
   ·cases hr
  ·cases hr
theorem Inv.adopt (h:Inv γ0 w0 N st a w η γ){d:Nat}(hN:d<N)(hd:getB st d=none){w':World}(hk:Below w.heap.size w w'){b:Nat}(hge:w.heap.size≤b){us:List PL}{t:TypeId}(hh:w'.heap[b]?=some (.cells (us.map exV).toArray t (0,0)))(h1:∀l∈us,ExOk w γ l):
  R γ0 w0 N (.slot d (one (.ptr d 0))::.blk d (.box us)::st) (a.put (some d) (.pointer (some ⟨b,0,none⟩))) w':=by
 have hlive:∀k n,γ k=some n→k<w.heap.size:=fun k n hk=>(h.live k n hk).1
 let hdr:Value:=.pointer (some ⟨b,0,none⟩)
 let η':=upd η d hdr
 let γ':Nat→Option Nat:=fun k=>if k<w.heap.size then γ k else if k=b then some d else none
 have hγo:∀k,k<w.heap.size→γ' k=γ k:=fun k hk=>if_pos hk
 have hkw:Kp w w' γ γ':=⟨hk.size,fun k hb hg=>⟨by rw [hγo k hb];exact hg,hk.block k hb⟩⟩
 have hne:∀m b',getB st m=some b'→m≠d:=fun m b' hm e=>by rw [e,hd]at hm;cases hm
 have hget:∀m,m≠d→getB (.blk d (.box us)::st) m=getB st m:=fun m hm=>if_neg (fun e=>hm e.symm)
 have hn:Nm (getB st) (getB (.blk d (.box us)::st)) η η' (fun _=>True):=by
  intro m b' _ hb
  have hm:=hne m b' hb
  refine⟨upd_other _ _ hm,?_⟩
  cases b' with
  |arr fl e s rows=>exact⟨fl,rows,by rw [hget m hm];exact hb,rfl⟩
  |box ls=>exact⟨ls,by rw [hget m hm];exact hb⟩
 have hgm:∀m b0,γ b0=some m→γ' b0=some m∧w'.heap[b0]?=w.heap[b0]?:=fun m b0 hb0=>⟨by rw [hγo b0 (hlive b0 m hb0)];exact hb0,hk.block b0 (hlive b0 m hb0)⟩
 have hI:Inv γ0 w0 N (.blk d (.box us)::st) a w' η' γ':=by
  refine {h with slots:=fun t=>(h.slots t).kp hn hkw,blks:=fun m b' hb=>?_,live:=fun k m hb=>?_,low:=fun k hb hg=>?_,os:=hk.os.trans h.os,tape:=hk.tape.trans h.tape,output:=hk.output.trans h.output,size:=Nat.le_trans h.size hk.size,pin:=fun h9 k ls hb hbx=>?_,pinA:=h.pinA.to fun h9 fl e s rows hbx=>⟨upd_other _ _ (by omega),fl,rows,by rw [hget 999 (by omega)]at hbx;exact hbx,rfl⟩}
  ·by_cases hm:m=d
   ·subst hm
    rw [getB_hit]at hb
    cases hb
    exact⟨b,(us.map exV).toArray,t,upd_same _ _ _,by simp only [γ',if_neg (Nat.not_lt.2 hge),if_true],hh,by simpa using RepPs.ofExs fun l hl=>(h1 l hl).kp hkw⟩
   ·rw [hget m hm]at hb
    have h2:=h.blks m b' hb
    cases b' with
    |box ls=>exact RepB.kp_box hn hkw h2 (upd_other _ _ hm) (hgm m ·)
    |arr fl e s rows=>exact RepB.kp_arr hkw h2 (upd_other _ _ hm) (hgm m ·)
  ·by_cases hlt:k<w.heap.size
   ·rw [hγo k hlt]at hb
    obtain⟨h2,h3,h4⟩:=h.live k m hb
    obtain⟨b',hb'⟩:=Option.isSome_iff_exists.1 h4
    have hm:=hne m b' hb'
    exact⟨Nat.lt_of_lt_of_le hlt hk.size,by rw [hget m hm];show hdrBlock (upd η d hdr m)=_∨_;rw [upd_other _ _ hm];exact h3,by rw [hget m hm];exact h4⟩
   ·simp only [γ',if_neg hlt]at hb
    split at hb
    ·rename_i e
     cases hb
     subst e
     exact⟨heap_lt hh,.inl (by show hdrBlock (upd η d hdr d)=_;rw [upd_same];rfl),by simp [getB]⟩
    ·cases hb
  ·have hlt:k<w.heap.size:=Nat.lt_of_lt_of_le hb h.size
   obtain⟨h2,h3⟩:=h.low k hb hg
   exact⟨by rw [hγo k hlt];exact h2,(hk.block k hlt).trans h3⟩
  ·by_cases hm:(999:Nat)=d
   ·omega
   ·rw [hget 999 hm]at hbx
    by_cases hlt:k<w.heap.size
    ·rw [hγo k hlt]at hb
     exact h.pin h9 k ls hb hbx
    ·simp only [γ',if_neg hlt]at hb
     split at hb
     ·cases hb;omega
     ·cases hb
 exact⟨_,_,hI.put d _ _ hN (RepV.one_iff.2 ⟨us,b,getB_hit _ _ _,upd_same _ _ _,rfl⟩)⟩
theorem WL.opB {ops:Array Oper}{r:List Oper}{d f:Nat}{xs:List Operand}{ts:Array TypeId}{ty:TypeId}{pos:String}{after:Array Edge}
  {α β:Type} {ok:α→Prop} {ins:α→List PL} {rel:α→β→Prop} {us':α→β→List PL}
  (hf:Has P f) (hs:SoundB P f ok ins rel us') (x:α) (hok:ok x) (hN:d<N) (hd:getB st d=none) (ha:exactO st xs=some (ins x))
  (h:∀y,rel x y→WL P γ0 w0 N ops r (.slot d (one (.ptr d 0))::.blk d (.box (us' x y))::st) Q):
  WL P γ0 w0 N ops (⟨some d,.call ⟨.value (.func f),xs.toArray,ts⟩,ty,pos,after,none⟩::r) st Q:=fun a w hR=>by
 refine wpList_plain rfl fun K hK=>?_
 obtain⟨η,γ,hI⟩:=hR
 obtain⟨k1,k2⟩:=exactO_sound hI ha
 have hcall:=hs.2 x w hok hI.globw (fun l hl=>(k2 l hl).kp ⟨Nat.le_refl _,fun k _ _=>⟨rfl,rfl⟩⟩)
 have hrun:=enter_of (P:=P) hf (a:=a) (w:=w) (args:=xs) (ts:=ts) (dst:=some d) (ty:=ty) (pos:=pos) (after:=after) (g:=none)
 unfold Oper.wp
 rw [hrun]
 show Calls P f (xs.map a.eval).toArray w _
 rw [k1]
 refine hcall.mono fun e w' ⟨y,b,t,hrel,he,hbel,hge,hh⟩=>?_
 subst he
 exact hK _ _ (h y hrel _ _ (hI.adopt hN hd hbel hge hh ((hs.1 x y hok hrel).ok k2)))
theorem argPV_data {x:Arg}{u:Value}{hb:Nat→Option Blk}(h:RepD w γ x u):RepV hb η γ w (argPV x) u:=by
 cases x with
 |val g ls=>
  cases g with
  |true=>
   obtain⟨us,rfl,h1⟩:=h
   exact⟨us,rfl,toPLs_sound h1⟩
  |false=>
   obtain⟨l,rfl,h1⟩:=h
   exact⟨toPL l,rfl,toPL_sound h1⟩
 |row cells off=>exact h.elim
 |clo f boxes=>exact h.elim
theorem initS_data {hb:Nat→Option Blk}:∀(args:List Arg) (i:Nat) (f:Nat→Value) (_:∀(j:Nat) (x:Arg),args[j]?=some x→RepD w γ x (f (i+j))) (t:Nat),RepV hb η γ w (getS (initS i args) t) (f t)
 |[],i,f,h,t=>RepV.one_iff.2 trivial
 |x::r,i,f,h,t=>by
  show RepV hb η γ w (if i=t then argPV x else getS (initS (i+1) r) t) (f t)
  by_cases e:i=t
  ·subst e
   rw [if_pos rfl]
   exact argPV_data (h 0 x rfl)
  ·rw [if_neg e]
   exact initS_data r (i+1) f (fun j y hj=>by
    have:=h (j+1) y (by simpa using hj)
    rw [show i+1+j=i+(j+1)by omega]
    exact this) t
abbrev initC (us:List PL)(args:List Arg):St:=.slot 0 (one (.ptr 999 0))::.blk 999 (.box us)::initS 1 args
theorem SoundC.of {f:FuncId}{fn:Func}{c:Code}{α β:Type}{ok:α→Prop}{us:α→List PL}{enc:α→List Arg}{rel:α→β→Prop}{us':α→β→List PL}{res:α→β→Res}
  (hf:P.funcs[f]?=some fn) (hb:fn.body=some c) (hN:fn.ntmps=N)
  (hkept:∀x y,ok x→rel x y→Kept (us x) (us' x y))
  (h:∀x b w,ok x→b<w.heap.size→(enc x).length+1≤N∧
   W P (own1 b) w N (initC (us x) (enc x)) c (bodyPost P fn fun e w'=>∃y t',rel x y∧Post (putO w b (.cells ((us' x y).map exV).toArray t' (0,0))) (res x y) e w')):SoundC P f ok us enc rel us' res:=by
 refine⟨hkept,?_⟩
 intro x b t vs w hok hgl h1 hh hargs
 obtain⟨hl,hW⟩:=h x b w hok (heap_lt hh)
 refine calls_of_wp hf hb (hW _ _ ⟨fun _=>.pointer (some ⟨b,0,none⟩),own1 b,?_⟩)
 have hsz:vs.length=(enc x).length:=hargs.1
 refine {slots:=fun k=>?_,blks:=fun n b' hb'=>?_,live:=fun k n hk=>?_,low:=fun k _ hk=>⟨hk,rfl⟩,os:=rfl,tape:=rfl,output:=rfl,size:=Nat.le_refl _,defers:=rfl,width:=?_,glob:=hgl,pin:=fun _ k ls hk _=>hk,pinA:=PinA.no fun _ fl e s rows hb=>(by simp [getB]at hb)}
 ·show RepV _ _ _ _ (if 0=k then one (.ptr 999 0)else getS (initS 1 (enc x)) k) _
  by_cases e:0=k
  ·subst e
   rw [if_pos rfl]
   refine RepV.one_iff.2 ⟨us x,b,by simp [getB],rfl,?_⟩
   show((Value.pointer (some ⟨b,0,none⟩)::vs).toArray++Array.replicate (fn.ntmps-(Value.pointer (some ⟨b,0,none⟩)::vs).toArray.size) undef).getD 0 undef=_
   rw [Array.getD_eq_getD_getElem?,Array.getElem?_append_left (by simp)]
   simp
  ·rw [if_neg e]
   refine initS_data (enc x) 1 (fun t=>((Value.pointer (some ⟨b,0,none⟩)::vs).toArray++Array.replicate (fn.ntmps-(Value.pointer (some ⟨b,0,none⟩)::vs).toArray.size) undef).getD t undef) (fun j y hj=>?_) k
   obtain⟨v,k1,k2⟩:=hargs.2 j y hj
   have hlt:j<vs.length:=(gsS k1).1
   have:((Value.pointer (some ⟨b,0,none⟩)::vs).toArray++Array.replicate (fn.ntmps-(Value.pointer (some ⟨b,0,none⟩)::vs).toArray.size) undef).getD (1+j) undef=v:=by
    rw [Array.getD_eq_getD_getElem?,Array.getElem?_append_left (by simp;omega)]
    simp [Nat.add_comm 1 j,k1]
   rw [this]
   exact k2
 ·simp only [getB]at hb'
  split at hb'
  ·rename_i e
   cases hb'
   subst e
   exact⟨b,((us x).map exV).toArray,t,rfl,own1_same b,hh,by simpa using RepPs.ofExs h1⟩
  ·rw [initS_blk]at hb'
   cases hb'
 ·have hkb:=own1_some hk
  subst hkb
  rw [own1_same]at hk
  cases hk
  exact⟨heap_lt hh,.inl rfl,by simp [getB]⟩
 ·simp
  omega
theorem At.retC {b:Nat}{fn:Func}{α β:Type}{rel:α→β→Prop}{us':α→β→List PL}{res:α→β→Res}{x:α}(y:β)(hrel:rel x y)(hN:N≤999)(hB:b<w0.heap.size)
  (hb:getB st 999=some (.box (us' x y))) (hx:(us' x y).all exB=true) (hr:resO P (.kill 999::st) fn.results.toList=some (res x y)) (hL:apart (ownC P (.kill 999::st) 0 fn.results.toList)=true):
  At (own1 b) w0 N st .ret (bodyPost P fn fun e w'=>∃y t',rel x y∧Post (putO w0 b (.cells ((us' x y).map exV).toArray t' (0,0))) (res x y) e w'):=by
 intro a w ⟨η,γ,h⟩
 obtain⟨b',cs,t,g1,g2,g3,g4⟩:=h.blks 999 _ hb
 have hbb:b'=b:=own1_some (h.pin hN b' _ g2 hb)
 subst hbb
 obtain⟨g5,g6⟩:=g4.exs hx
 have hcs:cs=((us' x y).map exV).toArray:=by rw [←g5]
 subst hcs
 have hI:Inv none0 (putO w0 b' (.cells ((us' x y).map exV).toArray t (0,0))) N (.kill 999::st) a w η (fun k=>if γ k=some 999 then none else γ k):=by
  have hd:=h.drop 999
  refine {hd with low:=fun k hk _=>?_,os:=h.os,tape:=h.tape,output:=h.output,size:=by rw [putO_size];exact h.size,glob:=fun g vs hg=>?_,pin:=fun _ k ls hk hbx=>?_,pinA:=PinA.no fun _ fl e s rows hb=>(by simp [getB]at hb)}
  ·rw [putO_size]at hk
   by_cases e:k=b'
   ·subst e
    exact⟨by simp only [g2,if_true],by rw [g3,putO_same _ hk]⟩
   ·obtain⟨k1,k2⟩:=h.low k hk (own1_other e)
    exact⟨by simp [k1],by rw [k2,putO_other _ e]⟩
  ·obtain⟨k1,k2,k3⟩:=h.glob g vs hg
   refine⟨rfl,by rw [putO_size];exact k2,fun j v hj=>⟨(k3 j v hj).1,?_⟩⟩
   rw [←(k3 j v hj).2]
   exact World.cell?_of_block (a:=⟨g,j,none⟩) (putO_other _ (own1_none k1))
  ·simp [getB]at hbx
 have hmain:=At.ret (P:=P) (fn:=fn) hr hL a w ⟨_,_,hI⟩
 obtain⟨h1,u,h2,h3⟩:=hmain
 exact⟨h1,u,h2,y,t,hrel,h3⟩
theorem At.retR {fn:Func}{α β:Type}{rel:α→β→Prop}{res:α→β→Res}{x:α}(y:β)(hrel:rel x y)(hr:resO P st fn.results.toList=some (res x y))(hL:apart (ownC P st 0 fn.results.toList)=true):
  At none0 w0 N st .ret (bodyPost P fn fun e w'=>∃y,rel x y∧Post w0 (res x y) e w'):=by
 intro a w hR
 obtain⟨h1,u,h2,h3⟩:=At.ret (P:=P) (fn:=fn) hr hL a w hR
 exact⟨h1,u,h2,y,hrel,h3⟩
def initX:Nat→List PL→St
 |_,[]=>[]
 |i,l::r=>.slot i (one l)::initX (i+1) r
theorem initX_blk:∀(ls:List PL) (i n:Nat),getB (initX i ls) n=none
 |[],i,n=>rfl
 |x::r,i,n=>initX_blk r (i+1) n
theorem initX_get {hb:Nat→Option Blk}:∀(ls:List PL) (i:Nat) (f:Nat→Value) (_:∀(j:Nat) (l:PL),ls[j]?=some l→f (i+j)=exV l∧ExOk w γ l) (t:Nat),RepV hb η γ w (getS (initX i ls) t) (f t)
 |[],i,f,h,t=>RepV.one_iff.2 trivial
 |x::r,i,f,h,t=>by
  show RepV hb η γ w (if i=t then one x else getS (initX (i+1) r) t) (f t)
  by_cases e:i=t
  ·subst e
   rw [if_pos rfl]
   obtain⟨h1,h2⟩:=h 0 x rfl
   rw [Nat.add_zero]at h1
   rw [h1]
   exact RepV.one_iff.2 (ex_rep h2)
  ·rw [if_neg e]
   exact initX_get r (i+1) f (fun j y hj=>by
    have:=h (j+1) y (by simpa using hj)
    rw [show i+1+j=i+(j+1)by omega]
    exact this) t
theorem enterX {f:FuncId}{fn:Func}{c:Code}{ls:List PL}{R':Ending→World→Prop}(hf:P.funcs[f]?=some fn)(hb:fn.body=some c)(hN:fn.ntmps=N)(hl:ls.length≤N)(hargs:∀l∈ls,ExOk w none0 l)(hgl:GlobOk none0 w)
  (h:W P none0 w N (initX 0 ls) c (bodyPost P fn R')):Calls P f (ls.map exV).toArray w R':=by
 refine calls_of_wp hf hb (h _ _ ⟨fun _=>undef,none0,?_⟩)
 refine {slots:=fun t=>?_,blks:=fun n b hb=>(by rw [initX_blk]at hb;cases hb),live:=fun b n hb=>(by cases hb),low:=fun b _ _=>⟨rfl,rfl⟩,os:=rfl,tape:=rfl,output:=rfl,size:=Nat.le_refl _,defers:=rfl,width:=?_,glob:=hgl,pin:=fun _ b ls hb _=>(by cases hb),pinA:=PinA.no fun _ fl e s rows hb=>(by rw [initX_blk]at hb;cases hb)}
 ·refine initX_get ls 0 (fun t=>((ls.map exV).toArray++Array.replicate (fn.ntmps-(ls.map exV).toArray.size) undef).getD t undef) (fun j x hj=>⟨?_,hargs x (List.mem_of_getElem? hj)⟩) t
  have hlt:j<ls.length:=(gsS hj).1
  show((ls.map exV).toArray++Array.replicate (fn.ntmps-(ls.map exV).toArray.size) undef).getD (0+j) undef=_
  rw [Nat.zero_add,Array.getD_eq_getD_getElem?,Array.getElem?_append_left (by simpa using hlt)]
  simp [hj]
 ·simp
  omega
theorem SoundB.of {f:FuncId}{fn:Func}{c:Code}{α β:Type}{ok:α→Prop}{ins:α→List PL}{rel:α→β→Prop}{us':α→β→List PL}
  (hf:P.funcs[f]?=some fn) (hb:fn.body=some c) (hN:fn.ntmps=N) (hkept:∀x y,ok x→rel x y→Kept (ins x) (us' x y))
  (h:∀x w,ok x→(ins x).length≤N∧W P none0 w N (initX 0 (ins x)) c (bodyPost P fn fun e w'=>∃y b t,rel x y∧e=.returned (.pointer (some ⟨b,0,none⟩))∧Below w.heap.size w w'∧w.heap.size≤b∧w'.heap[b]?=some (.cells ((us' x y).map exV).toArray t (0,0)))):SoundB P f ok ins rel us':=
 ⟨hkept,fun x w hok hgl hx=>enterX hf hb hN (h x w hok).1 hx hgl (h x w hok).2⟩
theorem At.retB {fn:Func}{α β:Type}{rel:α→β→Prop}{us':α→β→List PL}{x:α}{t n:Nat}(y:β)(hrel:rel x y)(hfn:fn.results.toList=[.tmp t])(ht:getS st t=one (.ptr n 0))(hb:getB st n=some (.box (us' x y)))(hx:(us' x y).all exB=true):
  At none0 w0 N st .ret (bodyPost P fn fun e w'=>∃y b t,rel x y∧e=.returned (.pointer (some ⟨b,0,none⟩))∧Below w0.heap.size w0 w'∧w0.heap.size≤b∧w'.heap[b]?=some (.cells ((us' x y).map exV).toArray t (0,0))):=by
 intro a w ⟨η,γ,h⟩
 have h0:=h.slots t
 rw [ht]at h0
 obtain⟨ls,b,g1,g2,g3⟩:=RepV.one_iff.1 h0
 obtain⟨b',cs,t',g4,g5,g6,g7⟩:=h.blks n _ hb
 rw [g2]at g4
 injection g4 with g4
 injection g4 with g4
 injection g4 with g4
 subst g4
 obtain⟨g8,g9⟩:=g7.exs hx
 have hcs:cs=((us' x y).map exV).toArray:=by rw [←g8]
 subst hcs
 refine⟨h.defers,.pointer (some ⟨b,0,none⟩),?_,y,b,t',hrel,rfl,⟨h.os,h.tape,h.output,h.size,fun k hk=>(h.low k hk rfl).2⟩,?_,g6⟩
 ·unfold results
  have hfn':fn.results= #[.tmp t]:=by
   have:=congrArg List.toArray hfn
   simpa using this
  rw [hfn']
  rw [Array.getD_eq_getD_getElem?]at g3
  simp [g3]
 ·rcases Nat.lt_or_ge b w0.heap.size with hlt|hge
  ·have:=(h.low b hlt rfl).1
   rw [g5]at this
   cases this
  ·exact hge
theorem SoundR.ofX {f:FuncId}{fn:Func}{c:Code}{α β:Type}{ok:α→Prop}{rows:α→List (List Leaf)}{rel:α→β→Prop}{res:α→β→Res}
  (hf:P.funcs[f]?=some fn) (hb:fn.body=some c) (hN:fn.ntmps=N) (h1:1≤N)
  (h:∀x v w,ok x→W P none0 w N (initX 0 [.xl v (rows x)]) c (bodyPost P fn fun e w'=>∃y,rel x y∧Post w (res x y) e w')):SoundR P f ok (fun x=>[.val false [.sl (rows x)]]) rel res:=by
 intro x vs w hok hgl hargs
 obtain⟨h2,h3⟩:=hargs
 obtain⟨v,h4,l,h5,h6⟩:=h3 0 _ rfl
 cases h5
 have hvs:vs=[exV (.xl v (rows x))]:=by
  cases vs with
  |nil=>simp at h2
  |cons u r=>
   cases r with
   |cons _ _=>simp at h2
   |nil=>
    simp only [List.getElem?_cons_zero,Option.some.injEq]at h4
    rw [h4]
    rfl
 rw [hvs]
 exact enterX (ls:=[.xl v (rows x)]) hf hb hN h1 (fun l hl=>by
  rw [List.mem_singleton.1 hl]
  exact h6) hgl (h x v w hok)
end
theorem evcP {α:Type}{a b:α}(h:a=b:=by simp (config := { maxSteps := 1000000 }) (disch:=first|assumption|omega) only [TY,datasO,dataO,exactO,exB,ar_u64,binE,eqCells,eqVal,eqOp,step_mk,makeE,List.toList_toArray,Value.oneCell',step_fnv,step_makeFunc,ev_func,callV,cells_agg,cells_int,cells_bool,cells_str,cells_sl,List.size_toArray,flatB_nil,flatB_cons,wid_nil,wid_cons,rowsF_len,rowsF_flat,rowsF_app,step_build,buildE,fillE,indexSlE,indexArrE,shiftE,indexArrV,indexStE,step_move,step_assign,step_pick,step_load,step_nilCheck,step_binOp,step_unOp,step_convert,step_slice,step_fieldAddr,step_field,step_indexAddr,step_index,step_extract,step_len,step_min,step_max,step_alloc,step_box,step_lit,step_app,step_fn,step_store,putV_some,getS_hit,getS_miss,getS_blk,getS_kill,getS_nil,getB_nil,getB_slot,getB_hit,getB_miss,getB_kill0,getB_kill1,ev_tmp,ev_int,ev_bool,ev_str,ev_nil,ev_agg,cl_int,cl_bool,cl_str,cl_nil,loadE,loadV,fieldAddrE,fieldE,partV,indexAddrE,lenE,lenO,strIdx,indexE,boundE,subE,sliceE,convE,minE,scal,nilE,tupE,capsE,optE,pickE,pbin,pint,pstr,pun,ar_in,ar_u32,ar_u8,allocE,boxE,litE,rowsO,leafO,leafsO,frz,clr,rowsOf,flB,Fl.and,Fl.nst,Fl.ok,Fl.isFl,noRef,nstOk,flatAt,hasAll,absL,appN,Fl.isNd,asN,storeN,Nat.reduceBNe,destOf,appE,storeE,argO,argsO,boxesO,callG,callE,impE,pvR,pvs,pvRL,pvT,owns,ownsT,ownsR,clrL,withB,PV.kill,PL.kill,PL.names,Blk.kill,PL.live,toPL,resV,resO,compsO,compO,rlsO,rlO,toRes,Leaf.isSc,List.map_cons,List.map_nil,List.all_cons,List.all_nil,List.length_cons,List.length_nil,List.drop_zero,List.drop_succ_cons,List.take_succ_cons,List.take_zero,List.drop_nil,List.take_nil,List.getElem?_cons_zero,List.getElem?_cons_succ,List.getElem?_nil,Option.map_some,Option.map_none,Option.bind_some,Option.isSome_some,Option.isSome_none,List.cons_append,List.nil_append,List.append_nil,if_true,if_false,reduceIte,Nat.reduceLT,Nat.reduceBEq,Nat.reduceLeDiff,Nat.reduceEqDiff,Nat.reduceAdd,Nat.reduceMul,Nat.zero_add,Nat.add_zero,Nat.mul_one,Int.reduceToNat,Bool.and_true,Bool.true_and,Bool.false_and,Bool.and_false,Bool.not_true,Bool.not_false,Bool.false_eq_true,decide_true,decide_false,and_self,and_true,true_and,or_true,true_or,or_false,false_or,if_pos,if_neg,Int.toNat_natCast,decide_eq_true,decide_eq_false,look_hit,look_miss,Int.ofNat_eq_natCast,Bool.or_false,Bool.or_true,Bool.true_or,Bool.false_or,Bool.not_eq_true,beq_self_eq_true,ne_eq,not_false_eq_true,not_true_eq_false,eq_self, *]<;>rfl):a=b:=h
end Go.Proofs.YtfgkfcfplodaoaaGreatDoor
