
import Derived.Test.YtfgkfcfplodaoaaGreatDoorHPEv3
set_option linter.unusedSimpArgs false
set_option linter.unusedVariables false
set_option maxRecDepth 100000
namespace Go.Proofs.YtfgkfcfplodaoaaGreatDoor
open Go Go.RowKit
section PW
def blkL:List (Nat×Blk)→List Entry
 |[]=>[]
 |(n,b)::r=>.blk n b::blkL r
def litL (P:Program)(st:St)(d:Nat)(t:TypeId)(len:Nat)(parts:List (Nat×Operand)):Option (List Entry):=
 match elT P t with
 |some e=>match szT P e,zeroT P e with
  |some s,some z=>match rowsO st s 0 (parts.map fun p=>(p.1,ev st p.2))with
   |some (rows,all)=>if rows.length=len∧z.cells.size=s∧0<s∧len*s≤16777216 then(if noRef all=true then some [.slot d (one (.all d)),.blk d (.arr (flB rows) e s rows)]else if len=1 then some [.slot d (one (.lit d)),.blk d (.box all)]else none)else none
   |none=>none
  |_,_=>none
 |none=>none
def makeL (P:Program)(d:Nat)(t:TypeId)(n c:PV):Option (List Entry):=
 match elT P t,n,c with
 |some e,.comp false [.sc (.int _ n)],.comp false [.sc (.int _ c)]=>match szT P e,byT P e,zeroT P e with
  |some s,some by_,some z=>if n=c∧0≤n∧z.cells.size=s∧0<s∧z.cells.toList.all Value.oneCell'=true∧n*by_≤140737488355328∧n≤140737488355328 then
    some [.slot d (one (.all d)),.blk d (.arr .ft e s (List.replicate n.toNat (z.cells.toList.map Leaf.sc)))]else none
  |_,_,_=>none
 |_,_,_=>none
def boxL (d:Nat):PV→Option (List Entry)
 |.comp _ ls=>if ls.all PL.live then some [.slot d (one (.ptr d 0)),.blk d (.box ls)]else none
 |_=>none
def allocL (P:Program)(d:Nat)(t:TypeId):Option (List Entry):=
 match zeroT P t with
 |some z=>some [.slot d (one (.ptr d 0)),.blk d (.box (z.cells.toList.map cl))]
 |none=>none
def callL (Γ:Models)(st:St)(d:Nat)(f:FuncId)(args:List Operand):Option (List Entry):=
 match Γ f with
 |some m=>match argsO st args with
  |some xs=>(m xs).map fun r=>.slot d (pvR d r)::blkL (ownsR d r)
  |none=>none
 |none=>none
def valL (d:Nat)(v:Option PV):Option (List Entry):=v.map fun v=>[.slot d v]
def entO (P:Program)(Γ:Models)(st:St)(d:Nat)(op:Op):Option (List Entry):=
 match op with
 |.alloc t=>allocL P d t
 |.box _ x=>boxL d (ev st x)
 |.buildSlice t len parts=>litL P st d t len parts.toList
 |.makeSlice t n c=>makeL P d t (ev st n) (ev st c)
 |.call c=>match c.callee with
  |.builtin .append=>none
  |.value (.func f)=>callL Γ st d f c.args.toList
  |_=>valL d (valO P st op)
 |_=>valL d (valO P st op)
def entG (P:Program)(Γ:Models)(ops:Array Oper)(st:St)(o:Oper):Option (List Entry):=
 match o.dst with
 |none=>none
 |some d=>match wantO ops st o.guard with
  |some true=>entO P Γ st d o.op
  |some false=>some [.slot d (one .udf)]
  |none=>none
section
variable {P:Program}{Γ:Models}{γ0:Nat→Option Nat}{w0:World}{N:Nat}{st st':St}{a:Act}{w:World}
theorem clr_id {d:Nat}(h:getB st d=none):clr d st=st:=by
 unfold clr
 rw [h]
 rfl
theorem clrL_id:∀{os:List (Nat×Blk)},(∀n,hasB (blkL os) n=true→getB st n=none)→clrL os st=st
 |[],_=>rfl
 |(n,b)::r,h=>by
  unfold clrL
  rw [clrL_id (os:=r) (fun m hm=>h m (by simp [blkL,hasB,hm])),clr_id (h n (by simp [blkL,hasB]))]
theorem withB_app:∀{os:List (Nat×Blk)},withB os st=blkL os++st
 |[]=>rfl
 |(n,b)::r=>by unfold withB blkL;rw [withB_app];rfl
theorem frz_id:∀{ls:List PL},noRef ls=true→frz ls st=st
 |[],_=>rfl
 |l::r,h=>by
  cases l<;>first|(exact frz_id (ls:=r) h)|(cases h)
theorem ent_step {d:Nat}{op:Op}{E:List Entry}(hN:d<N)(h:entO P Γ st d op=some E)(hf:∀n,hasB E n=true→getB st n=none):stepO P Γ N st (some d) op=some (E++st):=by
 have hval:∀{v:Option PV} {E:List Entry},valL d v=some E→putV N st d v=some (E++st):=by
  intro v E hv
  obtain⟨x,h1,rfl⟩:=oms hv
  subst h1
  exact if_pos hN
 unfold entO at h
 unfold stepO
 split at h
 ·rename_i t
  simp only [if_pos hN]
  unfold allocL at h
  split at h
  ·rename_i z hz
   cases h
   have hd:=hf d (by simp [hasB])
   unfold allocE
   rw [hz,clr_id hd]
   rfl
  ·cases h
 ·rename_i t x
  simp only [if_pos hN]
  unfold boxL at h
  split at h
  ·rename_i g ls hx
   split at h
   ·rename_i hl
    cases h
    have hd:=hf d (by simp [hasB])
    unfold boxE
    rw [clr_id hd,hx]
    simp only [hl,if_true]
    rfl
   ·cases h
  ·cases h
 ·rename_i t len parts
  simp only [if_pos hN]
  unfold litL at h
  split at h
  ·rename_i e he
   split at h
   ·rename_i s z hs hz
    split at h
    ·rename_i rows all hr
     split at h
     ·rename_i hc
      have hd:getB st d=none:=by
       split at h
       ·cases h;exact hf d (by simp [hasB])
       ·split at h
        ·cases h;exact hf d (by simp [hasB])
        ·cases h
      unfold litE
      rw [clr_id hd]
      simp only [he,hs,hz,hr]
      rw [if_pos hc]
      split at h
      ·rename_i hnr
       cases h
       rw [if_pos (.inl hnr),frz_id hnr]
       rfl
      ·rename_i hnr
       split at h
       ·rename_i h1
        cases h
        rw [if_neg (fun h2=>h2.elim hnr fun h3=>h3 h1)]
        rfl
       ·cases h
     ·cases h
    ·cases h
   ·cases h
  ·cases h
 ·rename_i t n c
  simp only [if_pos hN]
  unfold makeL at h
  unfold makeE
  split at h
  ·rename_i e k n k' c hel hn hc
   try simp only [hel,hn,hc]
   split at h
   ·rename_i s by_ z hs hb hz
    try simp only [hs,hb,hz]
    split at h
    ·rename_i hcond
     cases h
     have hd:=hf d (by simp [hasB])
     rw [clr_id hd,if_pos hcond]
     rfl
    ·cases h
   ·cases h
  ·cases h
 ·rename_i c
  split at h
  ·cases h
  ·rename_i f hc
   simp only [hc,if_pos hN]
   unfold callL at h
   unfold callG callE
   split at h
   ·rename_i m hm
    split at h
    ·rename_i xs hxs
     obtain⟨r,hr,rfl⟩:=oms h
     simp only [hm,hxs,hr,Option.map_some]
     unfold impE
     have hf':∀n,hasB (blkL (ownsR d r)) n=true→getB st n=none:=fun n hn=>hf n hn
     rw [clrL_id hf',withB_app]
     rfl
    ·cases h
   ·cases h
  ·rename_i h1 h2
   dsimp only
   split
   ·rename_i hc;exact absurd hc h1
   ·rename_i f hc;exact absurd hc (h2 f)
   ·rename_i t hc
    obtain⟨callee,args,ats⟩:=c
    simp only at hc
    subst hc
    obtain⟨x,h5,_⟩:=oms h
    simp [valO]at h5
   ·exact hval h
 ·rename_i h1 h2 h3 h5 h4
  dsimp only
  split
  ·rename_i t;exact(h1 t rfl).elim
  ·rename_i t x;exact(h2 t x rfl).elim
  ·rename_i t l p;exact(h3 t l p rfl).elim
  ·rename_i t n c;exact(h5 t n c rfl).elim
  ·rename_i c;exact(h4 c rfl).elim
  ·exact hval h
theorem rowsO_mono (hB:LeB st st'){s:Nat}:∀{ps:List (Nat×PV)} {k:Nat} {r:List (List Leaf)×List PL},rowsO st s k ps=some r→rowsO st' s k ps=some r
 |[],k,r,h=>h
 |(i,v)::ps,k,r,h=>by
  cases v with
  |tup vs=>simp [rowsO]at h
  |comp g ls=>
   unfold rowsO at h⊢
   split at h
   ·rename_i hc
    rw [if_pos hc]
    split at h
    ·rename_i h1 h2
     simp only [leafsO_mono hB h1,rowsO_mono hB h2]
     exact h
    ·cases h
   ·cases h
theorem argsO_mono (hB:LeB st st'):∀{xs:List Operand} {r:List Arg},(∀x∈xs,ev st x=ev st' x)→argsO st xs=some r→argsO st' xs=some r
 |[],r,_,h=>h
 |x::xs,r,he,h=>by
  unfold argsO at h⊢
  split at h
  ·rename_i h1 h2
   rw [he x List.mem_cons_self]at h1
   simp only [argO_mono hB h1,argsO_mono hB (fun y hy=>he y (List.mem_cons_of_mem _ hy)) h2]
   exact h
  ·cases h
theorem valO_mono (hB:LeB st st'){op:Op}{v:PV}(he:∀x∈op.operands.toList,ev st x=ev st' x)(h:valO P st op=some v):valO P st' op=some v:=by
 cases op
 case move x=>rw [show valO P st (.move x)=some (ev st x)from rfl,he x (by simp [Op.operands])]at h;exact h
 case assign x=>rw [show valO P st (.assign x)=some (ev st x)from rfl,he x (by simp [Op.operands])]at h;exact h
 case pick c x y=>
  rw [show valO P st (.pick c x y)=pickE (ev st c) (ev st x) (ev st y)from rfl,he c (by simp [Op.operands]),he x (by simp [Op.operands]),he y (by simp [Op.operands])]at h;exact h
 case load t x=>
  have h':loadE P st t (ev st x)=some v:=h
  rw [he x (by simp [Op.operands])]at h'
  exact loadE_mono hB h'
 case nilCheck x=>rw [show valO P st (.nilCheck x)=nilE (ev st x)from rfl,he x (by simp [Op.operands])]at h;exact h
 case binOp o t x y u=>
  rw [show valO P st (.binOp o t x y u)=binE P o t (ev st x) (ev st y)from rfl,he x (by simp [Op.operands]),he y (by simp [Op.operands])]at h;exact h
 case unOp o t x=>
  rw [show valO P st (.unOp o t x)=scal (fun a _=>pun o a) (ev st x) (ev st x)from rfl,he x (by simp [Op.operands])]at h;exact h
 case convert s t x=>
  have h':convE P st s t (ev st x)=some v:=h
  rw [he x (by simp [Op.operands])]at h'
  exact convE_mono hB h'
 case slice t x lo hi mx=>
  cases mx with
  |some m=>cases h
  |none=>
   have h':sliceE P st t (ev st x) (optE st lo) (optE st hi)=some v:=h
   have e1:optE st lo=optE st' lo:=by
    cases lo with
    |none=>rfl
    |some l=>exact congrArg some (he l (by simp [Op.operands]))
   have e2:optE st hi=optE st' hi:=by
    cases hi with
    |none=>rfl
    |some l=>exact congrArg some (he l (by simp [Op.operands]))
   rw [he x (by simp [Op.operands]),e1,e2]at h'
   exact sliceE_mono hB h'
 case fieldAddr s x f=>rw [show valO P st (.fieldAddr s x f)=fieldAddrE P s f (ev st x)from rfl,he x (by simp [Op.operands])]at h;exact h
 case field s x f=>rw [show valO P st (.field s x f)=fieldE P s f (ev st x)from rfl,he x (by simp [Op.operands])]at h;exact h
 case indexAddr t x i=>
  have h':indexAddrE P st t (ev st x) (ev st i)=some v:=h
  rw [he x (by simp [Op.operands]),he i (by simp [Op.operands])]at h'
  exact indexAddrE_mono hB h'
 case index t x i=>rw [show valO P st (.index t x i)=indexE P t (ev st x) (ev st i)from rfl,he x (by simp [Op.operands]),he i (by simp [Op.operands])]at h;exact h
 case extract x i=>rw [show valO P st (.extract x i)=tupE i (ev st x)from rfl,he x (by simp [Op.operands])]at h;exact h
 case build t parts=>
  have h':buildE P st t parts.toList=some v:=h
  have e1:(parts.toList.map fun p=>(p.1,ev st p.2))=(parts.toList.map fun p=>(p.1,ev st' p.2)):=List.map_congr_left fun p hp=>by
   rw [he p.2 (by simp [Op.operands];exact⟨p.1,by simpa using hp⟩)]
  unfold buildE at h'
  rw [e1]at h'
  exact h'
 case makeFunc fn first caps=>
  cases fn with
  |func f=>
   have e1:caps.toList.map (ev st)=caps.toList.map (ev st'):=List.map_congr_left fun x hx=>he x (by simp [Op.operands];exact .inr (by simpa using hx))
   have h':(if first.size=0 then(capsE (caps.toList.map (ev st))).map fun ns=>one (.fn f ns)else none)=some v:=h
   rw [e1]at h'
   exact h'
  |_=>cases h
 case call c=>
  obtain⟨callee,args,ats⟩:=c
  obtain⟨args⟩:=args
  have h':=h
  simp only [valO]at h'⊢
  split at h'
  ·rename_i _ x
   split at h'
   ·obtain⟨n,h1,h2⟩:=oms h'
    rw [he x (by simp [Op.operands,Call.operands])]at h1
    rw [lenO_mono hB h1]
    exact congrArg some h2
   ·cases h'
  ·rename_i _ x y
   rw [he x (by simp [Op.operands,Call.operands]),he y (by simp [Op.operands,Call.operands])]at h'
   exact h'
  ·rename_i _ x y
   rw [he x (by simp [Op.operands,Call.operands]),he y (by simp [Op.operands,Call.operands])]at h'
   exact h'
  ·cases h'
 all_goals cases h
theorem entO_mono (hB:LeB st st'){d:Nat}{op:Op}{E:List Entry}(he:∀x∈op.operands.toList,ev st x=ev st' x)(h:entO P Γ st d op=some E):entO P Γ st' d op=some E:=by
 have hval:∀{E:List Entry},valL d (valO P st op)=some E→valL d (valO P st' op)=some E:=by
  intro E hv
  obtain⟨x,h1,h2⟩:=oms hv
  unfold valL
  rw [valO_mono hB he h1]
  exact congrArg some h2
 unfold entO at h⊢
 split at h
 ·exact h
 ·rename_i t x
  rw [he x (by simp [Op.operands])]at h
  exact h
 ·rename_i t len parts
  unfold litL at h⊢
  have e1:(parts.toList.map fun p=>(p.1,ev st p.2))=(parts.toList.map fun p=>(p.1,ev st' p.2)):=List.map_congr_left fun p hp=>by
   rw [he p.2 (by simp [Op.operands];exact⟨p.1,by simpa using hp⟩)]
  rw [e1]at h
  split at h
  ·rename_i e hel
   split at h
   ·rename_i s z hs hz
    split at h
    ·rename_i hr
     simp only [rowsO_mono hB hr]
     exact h
    ·cases h
   ·cases h
  ·cases h
 ·rename_i t n c
  rw [he n (by simp [Op.operands]),he c (by simp [Op.operands])]at h
  exact h
 ·rename_i c
  split at h
  ·cases h
  ·rename_i f hc
   unfold callL at h⊢
   split at h
   ·rename_i m hm
    split at h
    ·rename_i xs hxs
     have:=argsO_mono hB (fun x hx=>he x (by simp [Op.operands,Call.operands];exact .inr (by simpa using hx))) hxs
     simp only [this]
     exact h
    ·cases h
   ·cases h
  ·exact hval h
 ·exact hval h
end
end PW
section PX
def dirO (o:Oper):List Nat:=(o.after.toList.filter (Region.binds .any)).map (·.on)
def ancO (As:List (List Nat))(i:Nat):List Nat:=As.getD i []
def chk1 (l:List Oper)(p:Nat)(As:List (List Nat))(i:Nat)(o:Oper):Bool:=
 (dirO o).all (fun k=>decide (k<i))&&
 (ancO As i).all (fun j=>decide (j<i)&&((dirO o).contains j||(dirO o).any fun k=>(ancO As k).contains j))&&
 (if i<p then(o.looksAt l.toArray).all fun t=>(List.range p).all fun j=>((l[j]?).bind (·.dst)) !=some t||(ancO As i).contains j||(ancO As j).contains i
  else(List.range i).all fun j=>(ancO As i).contains j)
def chk (l:List Oper)(p:Nat)(As:List (List Nat)):Bool:=
 decide (p≤l.length)&&(List.range l.length).all fun i=>match l[i]? with
  |some o=>chk1 l p As i o
  |none=>true
theorem chk_at {l:List Oper}{p:Nat}{As:List (List Nat)}(h:chk l p As=true){i:Nat}{o:Oper}(hi:l[i]?=some o):chk1 l p As i o=true:=by
 unfold chk at h
 rw [Bool.and_eq_true]at h
 have:=List.all_eq_true.1 h.2 i (List.mem_range.2 (gsS hi).1)
 rw [hi]at this
 exact this
theorem chk_dir {l:List Oper}{p:Nat}{As:List (List Nat)}(h:chk l p As=true){i:Nat}{o:Oper}(hi:l[i]?=some o):∀k∈dirO o,k<i:=by
 have:=chk_at h hi
 unfold chk1 at this
 simp only [Bool.and_eq_true]at this
 intro k hk
 simpa using List.all_eq_true.1 this.1.1 k hk
theorem chk_anc {l:List Oper}{p:Nat}{As:List (List Nat)}(h:chk l p As=true){i:Nat}{o:Oper}(hi:l[i]?=some o):∀j∈ancO As i,j<i∧(j∈dirO o∨∃k∈dirO o,j∈ancO As k):=by
 have:=chk_at h hi
 unfold chk1 at this
 simp only [Bool.and_eq_true]at this
 intro j hj
 have:=List.all_eq_true.1 this.1.2 j hj
 simpa using this
theorem chk_read {l:List Oper}{p:Nat}{As:List (List Nat)}(h:chk l p As=true){i:Nat}{o:Oper}(hi:l[i]?=some o)(hip:i<p):∀t∈o.looksAt l.toArray,∀j,j<p→(l[j]?).bind (·.dst)=some t→j∈ancO As i∨i∈ancO As j:=by
 have:=chk_at h hi
 unfold chk1 at this
 simp only [Bool.and_eq_true]at this
 intro t ht j hj hd
 have h2:=this.2
 rw [if_pos hip]at h2
 have:=List.all_eq_true.1 (List.all_eq_true.1 h2 t ht) j (List.mem_range.2 hj)
 rw [hd]at this
 simpa using this
theorem chk_tail {l:List Oper}{p:Nat}{As:List (List Nat)}(h:chk l p As=true){i:Nat}{o:Oper}(hi:l[i]?=some o)(hip:p≤i):∀j,j<i→j∈ancO As i:=by
 have:=chk_at h hi
 unfold chk1 at this
 simp only [Bool.and_eq_true]at this
 intro j hj
 have h2:=this.2
 rw [if_neg (by omega)]at h2
 have:=List.all_eq_true.1 h2 j (List.mem_range.2 hj)
 simpa using this
section
variable {P:Program}{Γ:Models}{γ0:Nat→Option Nat}{w0:World}{N:Nat}{Q:Exit→Act→World→Prop}{l:List Oper}{p:Nat}{As:List (List Nat)}{Es:List (List Entry)}{st0:St}
def L (listed:Array Bool)(i:Nat):Bool:=listed.getD i false
theorem L_set {listed:Array Bool}{i:Nat}(hi:i<listed.size)(j:Nat):L (listed.setIfInBounds i true) j=if i=j then true else L listed j:=by
 unfold L
 simp only [Array.getD_eq_getD_getElem?,Array.getElem?_setIfInBounds]
 by_cases e:i=j
 ·subst e;simp [hi]
 ·simp [e]
theorem ready_spec {listed:Array Bool}(hs:listed.size=l.length){i:Nat}(hi:i∈Region.ready .any l.toArray listed):∃o,l[i]?=some o∧L listed i=false∧∀k∈dirO o,L listed k=true:=by
 unfold Region.ready at hi
 obtain⟨h1,h2⟩:=List.mem_filter.1 hi
 have hlt:i<l.length:=by simpa using List.mem_range.1 h1
 simp only [Bool.and_eq_true]at h2
 have hget:l.toArray[i]?=some l[i]:=by simp [hlt]
 refine⟨l[i],by simp [hlt],?_,fun k hk=>?_⟩
 ·have h3:=h2.1
  unfold L
  simp only [Array.getD_eq_getD_getElem?]at h3⊢
  rw [Array.getElem?_eq_getElem (by omega)]at h3⊢
  simpa using h3
 ·have h3:=h2.2
  rw [hget]at h3
  simp only [Option.map_some,Option.getD_some]at h3
  obtain⟨e,he,rfl⟩:=List.mem_map.1 hk
  obtain⟨he1,he2⟩:=List.mem_filter.1 he
  have:=Array.all_eq_true_iff_forall_mem.1 h3 e (by simpa using he1)
  rw [he2]at this
  simpa [L]using this
theorem ready_of {listed:Array Bool}(hs:listed.size=l.length){i:Nat}{o:Oper}(hi:l[i]?=some o)(hn:L listed i=false)(hd:∀k∈dirO o,L listed k=true):i∈Region.ready .any l.toArray listed:=by
 have hlt:i<l.length:=(gsS hi).1
 unfold Region.ready
 refine List.mem_filter.2 ⟨List.mem_range.2 (by simpa using hlt),?_⟩
 have hget:l.toArray[i]?=some o:=by simpa using hi
 rw [hget]
 simp only [Option.map_some,Option.getD_some,Bool.and_eq_true]
 refine⟨?_,Array.all_eq_true_iff_forall_mem.2 fun e he=>?_⟩
 ·unfold L at hn
  simp only [Array.getD_eq_getD_getElem?]at hn⊢
  rw [Array.getElem?_eq_getElem (by omega)]at hn⊢
  simpa using hn
 ·cases hb:Region.binds .any e with
  |false=>rfl
  |true=>
   have:=hd e.on (List.mem_map.2 ⟨e,List.mem_filter.2 ⟨by simpa using he,hb⟩,rfl⟩)
   simpa [L]using this
def Closed (l:List Oper)(listed:Array Bool):Prop:=∀i o,l[i]?=some o→L listed i=true→∀k∈dirO o,L listed k=true
theorem closed_anc (h:chk l p As=true){listed:Array Bool}(hc:Closed l listed):∀(i:Nat) (o:Oper),l[i]?=some o→(∀k∈dirO o,L listed k=true)→∀j∈ancO As i,L listed j=true:=by
 intro i
 induction i using Nat.strongRecOn with
 |_ i ih=>
  intro o hi hd j hj
  rcases(chk_anc h hi j hj).2 with h1|⟨k,h1,h2⟩
  ·exact hd j h1
  ·have hk:=chk_dir h hi k h1
   have hlt:i<l.length:=(gsS hi).1
   have hok:l[k]?=some l[k]:=gsE (by omega)
   exact ih k hk l[k] hok (hc k _ hok (hd k h1)) j h2
theorem count_set (f g:Nat→Bool)(i:Nat)(hf:f i=true)(hg:g i=false)(hne:∀j,j≠i→g j=f j):∀(xs:List Nat),xs.Nodup→i∈xs→xs.countP g+1=xs.countP f
 |[],_,hm=>by cases hm
 |x::r,hn,hm=>by
  obtain⟨h1,h2⟩:=List.nodup_cons.1 hn
  rw [List.countP_cons,List.countP_cons]
  by_cases e:x=i
  ·subst e
   have:r.countP g=r.countP f:=List.countP_congr fun y hy=>by
    rw [hne y (fun e=>h1 (e▸hy))]
   simp [hf,hg,this]
  ·have hmr:i∈r:=by
    rcases List.mem_cons.1 hm with h|h
    ·exact absurd h.symm e
    ·exact h
   have ih:=count_set f g i hf hg hne r h2 hmr
   rw [hne x e]
   omega
theorem wpOp_of_list {i:Nat}{o:Oper}(hi:l[i]?=some o){r:List Oper}{K:Act→World→Prop}{a:Act}{w:World}(h:wpList P l.toArray Q (o::r) a w)(hK:∀a w,wpList P l.toArray Q r a w→K a w):wpOp P l.toArray Q i K a w:=by
 unfold wpOp
 have hget:l.toArray[i]?=some o:=by simpa using hi
 rw [hget]
 unfold wpList at h
 simp only
 split
 ·rename_i hw
  rw [if_pos hw]at h
  exact h.imp (Oper.wp_mono hK) id
 ·rename_i hw
  rw [if_neg hw]at h
  exact hK _ _ h
theorem draw_tail (h:chk l p As=true):∀(fuel k:Nat) (listed:Array Bool) (a:Act) (w:World),listed.size=l.length→p≤k→k≤l.length→l.length-k≤fuel→(∀i,i<l.length→L listed i=decide (i<k))→wpList P l.toArray Q (l.drop k) a w→wpAny P .any l.toArray Q fuel listed a w:=by
 intro fuel
 induction fuel with
 |zero=>
  intro k listed a w hs hp hk hf hl hw
  have hkn:k=l.length:=by omega
  subst hkn
  rw [List.drop_length]at hw
  refine⟨?_,hw⟩
  cases hr:Region.ready .any l.toArray listed with
  |nil=>rfl
  |cons i r=>
   obtain⟨o,h1,h2,_⟩:=ready_spec hs (i:=i) (by rw [hr];exact List.mem_cons_self)
   have hlt:=(gsS h1).1
   rw [hl i hlt]at h2
   simp at h2
   omega
 |succ fuel ih=>
  intro k listed a w hs hp hk hf hl hw
  refine⟨fun hr=>?_,fun i hi=>?_⟩
  ·by_cases hkn:k=l.length
   ·subst hkn
    rw [List.drop_length]at hw
    exact hw
   ·have hlt:k<l.length:=by omega
    have hok:l[k]?=some l[k]:=gsE hlt
    have:=ready_of hs hok (by rw [hl k hlt];simp) (fun j hj=>by
     have h1:=chk_dir h hok j hj
     rw [hl j (by omega)]
     simpa using h1)
    rw [hr]at this
    cases this
  ·obtain⟨o,h1,h2,h3⟩:=ready_spec hs hi
   have hlt:=(gsS h1).1
   have hge:k≤i:=by
    rw [hl i hlt]at h2
    simpa using h2
   have hik:i=k:=by
    rcases Nat.lt_or_ge k i with hki|hki
    ·have hc:Closed l listed:=fun j o' hj hL m hm=>by
      have hjl:=(gsS hj).1
      have:=chk_dir h hj m hm
      rw [hl j hjl]at hL
      rw [hl m (by omega)]
      simp at hL⊢
      omega
     have:=closed_anc h hc i o h1 h3 k (chk_tail h h1 (by omega) k hki)
     rw [hl k (by omega)]at this
     simp at this
    ·omega
   subst hik
   have hdrop:l.drop i=o::l.drop (i+1):=by
    rw [List.drop_eq_getElem_cons hlt]
    congr 1
    rw [gsE hlt]at h1
    exact Option.some.inj h1
   rw [hdrop]at hw
   refine wpOp_of_list h1 hw fun a' w' hw'=>?_
   refine ih (i+1) _ a' w' (by simpa using hs) (by omega) (by omega) (by omega) (fun j hj=>?_) hw'
   rw [L_set (by omega)]
   by_cases e:i=j
   ·subst e;simp
   ·rw [if_neg e,hl j hj]
    have:(j<i)↔(j<i+1):=by omega
    simp [this]
end
end PX
section PY
def onlyS (d:Nat):List Entry→Bool
 |[]=>true
 |.slot s _::r=>s==d&&onlyS d r
 |_::r=>onlyS d r
theorem onlyS_has {d t:Nat}:∀{E:List Entry} (_:onlyS d E=true) (_:hasS E t=true),t=d
 |.slot s v::r,h,ht=>by
  simp only [onlyS,Bool.and_eq_true,beq_iff_eq]at h
  simp only [hasS,Bool.or_eq_true,beq_iff_eq]at ht
  rcases ht with ht|ht
  ·exact ht.symm.trans h.1
  ·exact onlyS_has h.2 ht
 |.blk n b::r,h,ht=>onlyS_has (E:=r) h ht
 |.kill n::r,h,ht=>onlyS_has (E:=r) h ht
section
variable {P:Program}{Γ:Models}{γ0:Nat→Option Nat}{w0:World}{N:Nat}{Q:Exit→Act→World→Prop}{l:List Oper}{p:Nat}{As:List (List Nat)}{Es:List (List Entry)}{st0 st st':St}{a:Act}{w:World}
theorem R.congr (h1:∀t,getS st t=getS st' t)(h2:∀n,getB st n=getB st' n)(h:R γ0 w0 N st a w):R γ0 w0 N st' a w:=by
 obtain⟨η,γ,h⟩:=h
 have e1:getB st=getB st':=funext h2
 refine⟨η,γ,{h with slots:=fun t=>?_,blks:=fun n b hb=>?_,live:=fun b n hb=>?_,pin:=fun h9 b ls hb hbx=>h.pin h9 b ls hb (by rw [e1];exact hbx),pinA:=h.pinA.to fun _ fl e s rows hbx=>⟨rfl,fl,rows,by rw [e1];exact hbx,rfl⟩}⟩
 ·rw [←e1,←h1 t];exact h.slots t
 ·rw [←e1]at hb⊢;exact h.blks n b hb
 ·rw [←e1];exact h.live b n hb
def inL (xs:List Nat)(j:Nat):Bool:=xs.contains j
structure Steps' (P:Program)(Γ:Models)(N:Nat)(l:List Oper)(p:Nat)(As:List (List Nat))(st0:St)(Es:List (List Entry)):Prop where
 len:Es.length=p
 dist:distinct Es
 free:∀E∈Es,∀n,hasB E n=true→getB st0 n=none
 step:∀i o E,l[i]?=some o→Es[i]?=some E→∃d,o.dst=some d∧d<N∧onlyS d E=true∧entG P Γ l.toArray (pickE' Es 0 (inL (ancO As i)) st0) o=some E
theorem pick_congr (hd:distinct Es){S S':Nat→Bool}{t:Nat}(h:∀(j:Nat) E,Es[j]?=some E→hasS E t=true→S j=S' j):getS (pickE' Es 0 S st0) t=getS (pickE' Es 0 S' st0) t:=by
 by_cases hx:∃(j:Nat) (E:List Entry),Es[j]?=some E∧S j=true∧hasS E t=true
 ·obtain⟨j,E,h1,h2,h3⟩:=hx
  rw [pick_S_some Es 0 S st0 hd j E h1 (by rw [Nat.zero_add];exact h2) h3,pick_S_some Es 0 S' st0 hd j E h1 (by rw [Nat.zero_add,←h j E h1 h3];exact h2) h3]
 ·have hn:∀(j:Nat) E,Es[j]?=some E→S (0+j)=true→hasS E t=false:=fun j E h1 h2=>by
   cases h3:hasS E t with
   |false=>rfl
   |true=>exact absurd ⟨j,E,h1,by rw [Nat.zero_add]at h2;exact h2,h3⟩ hx
  have hn':∀(j:Nat) E,Es[j]?=some E→S' (0+j)=true→hasS E t=false:=fun j E h1 h2=>by
   cases h3:hasS E t with
   |false=>rfl
   |true=>exact absurd ⟨j,E,h1,by rw [Nat.zero_add,←h j E h1 h3]at h2;exact h2,h3⟩ hx
  rw [pick_S_none Es 0 S st0 hd hn,pick_S_none Es 0 S' st0 hd hn']
theorem pick_congrB (hd:distinct Es){S S':Nat→Bool}{t:Nat}(h:∀(j:Nat) E,Es[j]?=some E→hasB E t=true→S j=S' j):getB (pickE' Es 0 S st0) t=getB (pickE' Es 0 S' st0) t:=by
 by_cases hx:∃(j:Nat) (E:List Entry),Es[j]?=some E∧S j=true∧hasB E t=true
 ·obtain⟨j,E,h1,h2,h3⟩:=hx
  rw [pick_B_some Es 0 S st0 hd j E h1 (by rw [Nat.zero_add];exact h2) h3,pick_B_some Es 0 S' st0 hd j E h1 (by rw [Nat.zero_add,←h j E h1 h3];exact h2) h3]
 ·have hn:∀(j:Nat) E,Es[j]?=some E→S (0+j)=true→hasB E t=false:=fun j E h1 h2=>by
   cases h3:hasB E t with
   |false=>rfl
   |true=>exact absurd ⟨j,E,h1,by rw [Nat.zero_add]at h2;exact h2,h3⟩ hx
  have hn':∀(j:Nat) E,Es[j]?=some E→S' (0+j)=true→hasB E t=false:=fun j E h1 h2=>by
   cases h3:hasB E t with
   |false=>rfl
   |true=>exact absurd ⟨j,E,h1,by rw [Nat.zero_add,←h j E h1 h3]at h2;exact h2,h3⟩ hx
  rw [pick_B_none Es 0 S st0 hd hn,pick_B_none Es 0 S' st0 hd hn']
theorem pick_ext:∀(Es:List (List Entry)) (i:Nat) {S:Nat→Bool} (_:∀j,j<Es.length→S (i+j)=true) (st:St),pickE' Es i S st=pickE' Es i (fun _=>true) st
 |[],i,S,h,st=>rfl
 |E::r,i,S,h,st=>by
  unfold pickE'
  have h0:=h 0 (by simp)
  rw [Nat.add_zero]at h0
  rw [if_pos h0,if_pos rfl]
  exact pick_ext r (i+1) (fun j hj=>by rw [show i+1+j=i+(j+1)by omega];exact h (j+1) (by simpa using hj)) _
theorem pick_none:∀(Es:List (List Entry)) (i:Nat) {S:Nat→Bool} (_:∀j,S (i+j)=false) (st:St),pickE' Es i S st=st
 |[],i,S,h,st=>rfl
 |E::r,i,S,h,st=>by
  unfold pickE'
  have h0:=h 0
  rw [Nat.add_zero]at h0
  rw [if_neg (by simp [h0])]
  exact pick_none r (i+1) (fun j=>by rw [show i+1+j=i+(j+1)by omega];exact h (j+1)) _
theorem count_ge (n p:Nat):n-p≤(List.range n).countP (fun i=>decide (p≤i)):=by
 induction n with
 |zero=>simp
 |succ n ih=>
  rw [List.range_succ,List.countP_append]
  by_cases h:p≤n
  ·simp [h];omega
  ·simp;omega
theorem pick_le (hS:Steps' P Γ N l p As st0 Es){S S':Nat→Bool}(h:∀j,S j=true→S' j=true):LeB (pickE' Es 0 S st0) (pickE' Es 0 S' st0):=by
 intro m b hb
 by_cases hx:∃(j:Nat) (E:List Entry),Es[j]?=some E∧S' j=true∧hasB E m=true
 ·obtain⟨j,E,h1,h2,h3⟩:=hx
  rw [pick_B_some Es 0 S' st0 hS.dist j E h1 (by rw [Nat.zero_add];exact h2) h3]
  by_cases hs:S j=true
  ·rw [pick_B_some Es 0 S st0 hS.dist j E h1 (by rw [Nat.zero_add];exact hs) h3]at hb
   exact hb
  ·exfalso
   have hn:∀(j':Nat) E',Es[j']?=some E'→S (0+j')=true→hasB E' m=false:=fun j' E' h4 h5=>by
    by_cases e:j=j'
    ·subst e;rw [Nat.zero_add]at h5;exact absurd h5 hs
    ·exact(distinct_ne hS.dist h1 h4 e).2 m h3
   rw [pick_B_none Es 0 S st0 hS.dist hn,hS.free E (List.mem_of_getElem? h1) m h3]at hb
   cases hb
 ·have hn:∀(S:Nat→Bool),(∀j,S j=true→S' j=true)→∀(j:Nat) E,Es[j]?=some E→S (0+j)=true→hasB E m=false:=fun S h (j:Nat) E h1 h2=>by
   cases h3:hasB E m with
   |false=>rfl
   |true=>exact absurd ⟨j,E,h1,h j (by rw [Nat.zero_add]at h2;exact h2),h3⟩ hx
  rw [pick_B_none Es 0 S st0 hS.dist (hn S h)]at hb
  rw [pick_B_none Es 0 S' st0 hS.dist (hn S' (fun _ h=>h))]
  exact hb
theorem entG_step (hΓ:GSound P Γ){o:Oper}{d:Nat}(hd:o.dst=some d)(hN:d<N){E:List Entry}(he:entG P Γ l.toArray st o=some E)(hf:∀n,hasB E n=true→getB st n=none){i:Nat}(hi:l[i]?=some o)(hR:R γ0 w0 N st a w){K:Act→World→Prop}(hK:∀a' w',R γ0 w0 N (E++st) a' w'→K a' w'):wpOp P l.toArray Q i K a w:=by
 unfold wpOp
 have hget:l.toArray[i]?=some o:=by simpa using hi
 rw [hget]
 simp only
 unfold entG at he
 rw [hd]at he
 simp only at he
 obtain⟨η,γ,hI⟩:=id hR
 split at he
 ·rename_i hw
  rw [wantO_sound hI hw,if_pos rfl]
  left
  have:=ent_step hN he hf
  rw [←hd]at this
  exact stepO_sound hΓ hR this hK
 ·rename_i hw
  cases he
  rw [wantO_sound hI hw,if_neg (by simp),hd]
  exact hK _ _ ⟨η,γ,hI.lost d hN⟩
 ·cases he
theorem entG_mono {ops:Array Oper}(hB:LeB st st'){o:Oper}{E:List Entry}(hl:∀t∈o.looksAt ops,getS st t=getS st' t)(h:entG P Γ ops st o=some E):entG P Γ ops st' o=some E:=by
 have hw:wantO ops st o.guard=wantO ops st' o.guard:=by
  unfold wantO
  cases hg:o.guard with
  |none=>rfl
  |some q=>
   obtain⟨j,want⟩:=q
   simp only
   cases hd:(ops[j]?).bind (·.dst)with
   |none=>rfl
   |some d=>
    have:getS st d=getS st' d:=hl d (by
     unfold Oper.looksAt
     rw [hg]
     simp only [hd]
     exact List.mem_append_right _ (by simp))
    simp only [this]
 have he:∀x∈o.op.operands.toList,ev st x=ev st' x:=fun x hx=>by
  cases x with
  |tmp t=>exact hl t (by
    unfold Oper.looksAt
    exact List.mem_append_left _ (List.mem_filterMap.2 ⟨.tmp t,hx,rfl⟩))
  |const v=>rfl
  |global g=>rfl
  |func f=>rfl
 unfold entG at h⊢
 cases hd:o.dst with
 |none=>rw [hd]at h;cases h
 |some d=>
  rw [hd]at h
  simp only at h⊢
  rw [←hw]
  split at h
  ·exact entO_mono hB he h
  ·exact h
  ·cases h
theorem draw_free (hΓ:GSound P Γ)(h:chk l p As=true)(hp:p≤l.length)(hS:Steps' P Γ N l p As st0 Es)
  (hT:∀a w,R γ0 w0 N (pickE' Es 0 (fun _=>true) st0) a w→wpList P l.toArray Q (l.drop p) a w):
  ∀(fuel:Nat) (listed:Array Bool) (a:Act) (w:World),listed.size=l.length→Closed l listed→(∀i,L listed i=true→i<p)→(List.range l.length).countP (fun i=>!L listed i)≤fuel→R γ0 w0 N (pickE' Es 0 (L listed) st0) a w→wpAny P .any l.toArray Q fuel listed a w:=by
 intro fuel
 induction fuel with
 |zero=>
  intro listed a w hs hc hlp hcnt hR
  have hall:∀i,i<l.length→L listed i=true:=fun i hi=>by
   have:=List.countP_eq_zero.1 (Nat.le_zero.1 hcnt) i (List.mem_range.2 hi)
   simpa using this
  have hpn:l.length=p:=by
   rcases Nat.lt_or_ge p l.length with h1|h1
   ·have:=hlp p (hall p h1);omega
   ·omega
  refine draw_tail h 0 p listed a w hs (Nat.le_refl _) hp (by omega) (fun i hi=>?_) (hT a w (hR.congr (fun t=>pick_congr hS.dist fun j E hj _=>?_) (fun n=>?_)))
  ·rw [hall i hi];simp;omega
  ·have:=(gsS hj).1
   rw [hS.len]at this
   exact hall j (by omega)
  ·have key:pickE' Es 0 (L listed) st0=pickE' Es 0 (fun _=>true) st0:=pick_ext Es 0 (fun j hj=>hall (0+j) (by rw [hS.len]at hj;omega)) st0
   rw [key]
 |succ fuel ih=>
  intro listed a w hs hc hlp hcnt hR
  by_cases hall:∀i,i<p→L listed i=true
  · --all free ones are done
   refine draw_tail h (fuel+1) p listed a w hs (Nat.le_refl _) hp ?_ (fun i hi=>?_) (hT a w ?_)
   ·have:l.length-p≤(List.range l.length).countP (fun i=>!L listed i):=by
     have h1:(List.range l.length).countP (fun i=>!L listed i)=(List.range l.length).countP (fun i=>decide (p≤i)):=List.countP_congr fun i hi=>by
      have hil:=List.mem_range.1 hi
      by_cases hip:i<p
      ·simp [hall i hip];omega
      ·have:L listed i=false:=by
        cases hL:L listed i with
        |false=>rfl
        |true=>exact absurd (hlp i hL) hip
       simp [this];omega
     rw [h1]
     exact count_ge l.length p
    omega
   ·by_cases hip:i<p
    ·rw [hall i hip];simp [hip]
    ·have:L listed i=false:=by
      cases hL:L listed i with
      |false=>rfl
      |true=>exact absurd (hlp i hL) hip
     rw [this];simp;omega
   ·have key:pickE' Es 0 (L listed) st0=pickE' Es 0 (fun _=>true) st0:=pick_ext Es 0 (fun j hj=>hall (0+j) (by rw [hS.len]at hj;omega)) st0
    rw [←key]
    exact hR
  ·refine⟨fun hr=>?_,fun i hi=>?_⟩
   ·exfalso
    apply hall
    intro i
    induction i using Nat.strongRecOn with
    |_ i ih2=>
     intro hip
     cases hL:L listed i with
     |true=>rfl
     |false=>
      have hlt:i<l.length:=by omega
      have hok:l[i]?=some l[i]:=gsE hlt
      have:=ready_of hs hok hL (fun k hk=>by
       have h1:=chk_dir h hok k hk
       exact ih2 k h1 (by omega))
      rw [hr]at this
      cases this
   ·obtain⟨o,h1,h2,h3⟩:=ready_spec hs hi
    have hlt:=(gsS h1).1
    have hanc:=closed_anc h hc i o h1 h3
    have hip:i<p:=by
     rcases Nat.lt_or_ge i p with h4|h4
     ·exact h4
     ·exfalso
      exact hall fun j hj=>hanc j (chk_tail h h1 h4 j (by omega))
    have hEi:Es[i]?=some (Es[i]'(by rw [hS.len];exact hip)):=gsE _
    obtain⟨d,hd,hN,hod,hent⟩:=hS.step i o _ h1 hEi
    generalize Es[i]'(by rw [hS.len];exact hip)=E at hEi hod hent
    have hle:∀j,inL (ancO As i) j=true→L listed j=true:=fun j hj=>hanc j (by unfold inL at hj;simpa using hj)
    have hent':=entG_mono (ops:=l.toArray) (pick_le hS hle) (fun t ht=>pick_congr hS.dist fun j E' hj hh=>by
     have hjl:=(gsS hj).1
     rw [hS.len]at hjl
     have hoj:l[j]?=some l[j]:=gsE (by omega)
     obtain⟨d',hd',_,hod',_⟩:=hS.step j _ E' hoj hj
     have htd:=onlyS_has hod' hh
     have hb:(l[j]?).bind (·.dst)=some t:=by rw [hoj,htd];exact hd'
     rcases chk_read h h1 hip t ht j hjl hb with h5|h5
     ·rw [hanc j h5]
      unfold inL
      simpa using h5
     ·have hnj:L listed j=false:=by
       cases hL:L listed j with
       |false=>rfl
       |true=>
        have:=closed_anc h hc j _ hoj (hc j _ hoj hL) i h5
        rw [h2]at this
        cases this
      rw [hnj]
      unfold inL
      cases hq:(ancO As i).contains j with
      |false=>rfl
      |true=>
       have:=(chk_anc h h1 j (by simpa using hq)).1
       have h7:=(chk_anc h hoj i h5).1
       omega) hent
    have hfree:∀n,hasB E n=true→getB (pickE' Es 0 (L listed) st0) n=none:=fun n hn=>by
     rw [pick_B_none Es 0 (L listed) st0 hS.dist (fun j E' hj hL=>by
      by_cases e:i=j
      ·subst e;rw [Nat.zero_add,h2]at hL;cases hL
      ·exact(distinct_ne hS.dist hEi hj e).2 n hn)]
     exact hS.free E (List.mem_of_getElem? hEi) n hn
    refine entG_step hΓ hd hN hent' hfree h1 hR fun a' w' hR'=>?_
    have hset:∀j,L (listed.setIfInBounds i true) j=if i=j then true else L listed j:=L_set (by omega)
    refine ih _ a' w' (by simpa using hs) (fun j o' hj hL k hk=>?_) (fun j hL=>?_) ?_ (hR'.congr (fun t=>?_) (fun n=>?_))
    ·rw [hset]at hL⊢
     by_cases e:i=j
     ·subst e
      rw [h1]at hj
      cases hj
      split
      ·rfl
      ·exact h3 k hk
     ·rw [if_neg e]at hL
      split
      ·rfl
      ·exact hc j o' hj hL k hk
    ·rw [hset]at hL
     by_cases e:i=j
     ·omega
     ·rw [if_neg e]at hL
      exact hlp j hL
    ·have:=count_set (fun j=>!L listed j) (fun j=>!L (listed.setIfInBounds i true) j) i (by simp [h2]) (by simp [hset]) (fun j hj=>by simp only [hset,if_neg (fun e:i=j=>hj e.symm)]) (List.range l.length) List.nodup_range (List.mem_range.2 hlt)
     omega
    · --slots
     have hk:=distinct_kill hS.dist hEi
     cases hh:hasS E t with
     |true=>
      have e1:=(getS_app hk (pickE' Es 0 (L listed) st0) [] t).1 hh
      rw [List.append_nil]at e1
      rw [e1,pick_S_some Es 0 _ st0 hS.dist i E hEi (by rw [Nat.zero_add,hset,if_pos rfl]) hh]
     |false=>
      rw [(getS_app hk (pickE' Es 0 (L listed) st0) [] t).2 hh]
      exact pick_congr hS.dist fun j E' hj hh'=>by
       rw [hset]
       by_cases e:i=j
       ·subst e
        rw [hEi]at hj
        cases hj
        rw [hh]at hh'
        cases hh'
       ·rw [if_neg e]
    ·have hk:=distinct_kill hS.dist hEi
     cases hh:hasB E n with
     |true=>
      have e1:=((getB_app hk (pickE' Es 0 (L listed) st0) [] n).1 hh).1
      rw [List.append_nil]at e1
      rw [e1,pick_B_some Es 0 _ st0 hS.dist i E hEi (by rw [Nat.zero_add,hset,if_pos rfl]) hh]
     |false=>
      rw [(getB_app hk (pickE' Es 0 (L listed) st0) [] n).2 hh]
      exact pick_congrB hS.dist fun j E' hj hh'=>by
       rw [hset]
       by_cases e:i=j
       ·subst e
        rw [hEi]at hj
        cases hj
        rw [hh]at hh'
        cases hh'
       ·rw [if_neg e]
theorem W.draw (hm:P.follows .mixedOrders=true)(hΓ:GSound P Γ){id:Nat}(p:Nat)(As:List (List Nat))(Es:List (List Entry))(h:chk l p As=true)(hS:Steps' P Γ N l p As st0 Es)
  (hT:WL P γ0 w0 N l.toArray (l.drop p) (pickE' Es 0 (fun _=>true) st0) Q):W P γ0 w0 N st0 (.region id l.toArray true) Q:=fun a w hR=>by
 have hp:p≤l.length:=by
  unfold chk at h
  rw [Bool.and_eq_true]at h
  simpa using h.1
 refine wp_region_any hm ?_
 obtain⟨η,γ,hI⟩:=hR
 have hR':R γ0 w0 N st0 a w.drew:=⟨η,γ,hI.world w.drew rfl rfl rfl rfl⟩
 have hL0:∀i,L (Array.replicate l.toArray.size false) i=false:=fun i=>by
  unfold L
  simp only [Array.getD_eq_getD_getElem?,Array.getElem?_replicate]
  split<;>rfl
 have hpick:pickE' Es 0 (L (Array.replicate l.toArray.size false)) st0=st0:=pick_none Es 0 (fun j=>hL0 _) st0
 refine draw_free hΓ h hp hS hT _ _ a w.drew (by simp) (fun i o _ hL=>by rw [hL0]at hL;cases hL) (fun i hL=>by rw [hL0]at hL;cases hL) ?_ (by rw [hpick];exact hR')
 simp only [hL0]
 simp
end
end PY
section PZ
def slotsE:List Entry→List Nat
 |[]=>[]
 |.slot s _::r=>s::slotsE r
 |_::r=>slotsE r
def namesE:List Entry→List Nat
 |[]=>[]
 |.blk n _::r=>n::namesE r
 |_::r=>namesE r
def meets (a b:List Nat):Bool:=a.any fun x=>b.contains x
def distB:List (List Entry)→Bool
 |[]=>true
 |E::r=>noKill E&&(r.all fun E'=>!meets (slotsE E) (slotsE E')&&!meets (namesE E) (namesE E'))&&distB r
def freeB (st:St)(Es:List (List Entry)):Bool:=Es.all fun E=>(namesE E).all fun n=>(getB st n).isNone
theorem hasS_slots {t:Nat}:∀{E:List Entry},hasS E t=true↔t∈slotsE E
 |[]=>by simp [hasS,slotsE]
 |.slot s v::r=>by
  simp only [hasS,slotsE,Bool.or_eq_true,beq_iff_eq,List.mem_cons,hasS_slots (E:=r)]
  constructor<;>(rintro(h|h);exact .inl h.symm;exact .inr h)
 |.blk n b::r=>hasS_slots (E:=r)
 |.kill n::r=>hasS_slots (E:=r)
theorem hasB_names {t:Nat}:∀{E:List Entry},hasB E t=true↔t∈namesE E
 |[]=>by simp [hasB,namesE]
 |.blk s v::r=>by
  simp only [hasB,namesE,Bool.or_eq_true,beq_iff_eq,List.mem_cons,hasB_names (E:=r)]
  constructor<;>(rintro(h|h);exact .inl h.symm;exact .inr h)
 |.slot n b::r=>hasB_names (E:=r)
 |.kill n::r=>hasB_names (E:=r)
theorem meets_not {a b:List Nat}(h:(!meets a b)=true){t:Nat}(ha:t∈a):t∉b:=by
 intro hb
 have:meets a b=true:=List.any_eq_true.2 ⟨t,ha,by simpa using hb⟩
 rw [this]at h
 cases h
theorem dist_of:∀{Es:List (List Entry)} (_:distB Es=true),distinct Es
 |[],_=>trivial
 |E::r,h=>by
  simp only [distB,Bool.and_eq_true]at h
  refine⟨h.1.1,fun E' hE=>?_,dist_of h.2⟩
  have:=List.all_eq_true.1 h.1.2 E' hE
  simp only [Bool.and_eq_true]at this
  refine⟨fun t ht=>?_,fun t ht=>?_⟩
  ·cases hh:hasS E' t with
   |false=>rfl
   |true=>exact absurd (hasS_slots.1 hh) (meets_not this.1 (hasS_slots.1 ht))
  ·cases hh:hasB E' t with
   |false=>rfl
   |true=>exact absurd (hasB_names.1 hh) (meets_not this.2 (hasB_names.1 ht))
theorem free_of {st:St}{Es:List (List Entry)}(h:freeB st Es=true):∀E∈Es,∀n,hasB E n=true→getB st n=none:=by
 intro E hE n hn
 have:=List.all_eq_true.1 (List.all_eq_true.1 h E hE) n (hasB_names.1 hn)
 simpa using this
section
variable {P:Program}{Γ:Models}{γ0:Nat→Option Nat}{w0:World}{N:Nat}{Q:Exit→Act→World→Prop}{l:List Oper}{p:Nat}{As:List (List Nat)}{st0:St}
inductive Flow (P:Program)(Γ:Models)(N:Nat)(ops:Array Oper)(As:List (List Nat))(st0:St):Nat→List Oper→List (List Entry)→List (List Entry)→Prop
 |done {i:Nat} {Es:List (List Entry)}:Flow P Γ N ops As st0 i [] Es Es
 |step {i d:Nat} {o:Oper} {r:List Oper} {Es F:List (List Entry)} {E:List Entry}:o.dst=some d→d<N→entG P Γ ops (pickE' Es 0 (inL (ancO As i)) st0) o=some E→onlyS d E=true→Flow P Γ N ops As st0 (i+1) r (Es++[E]) F→Flow P Γ N ops As st0 i (o::r) Es F
theorem pick_prefix:∀(Es F:List (List Entry)) (i:Nat) (S:Nat→Bool) (st:St),(∀j,i+Es.length≤j→S j=false)→pickE' (Es++F) i S st=pickE' Es i S st
 |[],F,i,S,st,h=>by
  show pickE' F i S st=st
  exact pick_none F i (fun j=>h (i+j) (by simp)) st
 |E::r,F,i,S,st,h=>by
  show pickE' (r++F) (i+1) S _=pickE' r (i+1) S _
  exact pick_prefix r F (i+1) S _ (fun j hj=>h j (by simp at hj⊢;omega))
theorem flow_steps (hc:chk l p As=true):∀{i:Nat} {r:List Oper} {Es F:List (List Entry)} (_:Flow P Γ N l.toArray As st0 i r Es F),i=Es.length→(∀(k:Nat) (o:Oper),r[k]?=some o→l[i+k]?=some o)→
  (∀(k:Nat) (o:Oper) (E:List Entry),l[k]?=some o→Es[k]?=some E→∃d,o.dst=some d∧d<N∧onlyS d E=true∧entG P Γ l.toArray (pickE' Es 0 (inL (ancO As k)) st0) o=some E)→
  F.length=i+r.length∧∀(k:Nat) (o:Oper) (E:List Entry),l[k]?=some o→F[k]?=some E→∃d,o.dst=some d∧d<N∧onlyS d E=true∧entG P Γ l.toArray (pickE' F 0 (inL (ancO As k)) st0) o=some E:=by
 intro i r Es F hf
 induction hf with
 |done=>intro hi _ hp;exact⟨by simp [hi],hp⟩
 | @step i d o r Es F E h1 h2 h3 h4 _ ih=>
  intro hi hr hp
  have hio:l[i]?=some o:=by have:=hr 0 o rfl;simpa using this
  have hpre:∀(k:Nat) (o':Oper),l[k]?=some o'→k≤i→pickE' (Es++[E]) 0 (inL (ancO As k)) st0=pickE' Es 0 (inL (ancO As k)) st0:=fun k o' hk hki=>by
   refine pick_prefix Es [E] 0 _ st0 fun j hj=>?_
   unfold inL
   cases hq:(ancO As k).contains j with
   |false=>rfl
   |true=>
    have:=(chk_anc hc hk j (by simpa using hq)).1
    omega
  obtain⟨g1,g2⟩:=ih (by simp [hi]) (fun k o' hk=>by
   have:=hr (k+1) o' (by simpa using hk)
   rw [show i+1+k=i+(k+1)by omega]
   exact this) (fun k o' E' hk hE=>by
    by_cases hki:k<i
    ·rw [List.getElem?_append_left (by omega)]at hE
     obtain⟨d',q1,q2,q3,q4⟩:=hp k o' E' hk hE
     exact⟨d',q1,q2,q3,by rw [hpre k o' hk (by omega)];exact q4⟩
    ·have hkl:=(gsS hE).1
     have hki':k=i:=by simp at hkl;omega
     subst hki'
     rw [hio]at hk
     cases hk
     have hE2:E'=E:=by
      rw [hi,List.getElem?_append_right (Nat.le_refl _),Nat.sub_self]at hE
      simpa using hE.symm
     subst hE2
     exact⟨d,h1,h2,h4,by rw [hpre k o hio (Nat.le_refl _)];exact h3⟩)
  exact⟨by rw [g1];simp;omega,g2⟩
theorem W.draws (hm:P.follows .mixedOrders=true)(hΓ:GSound P Γ){id:Nat}(p:Nat)(As:List (List Nat)){Es:List (List Entry)}(h:chk l p As=true)(hf:Flow P Γ N l.toArray As st0 0 (l.take p) [] Es)(hd:distB Es=true)(hfr:freeB st0 Es=true)
  (hT:WL P γ0 w0 N l.toArray (l.drop p) (pickE' Es 0 (fun _=>true) st0) Q):W P γ0 w0 N st0 (.region id l.toArray true) Q:=by
 have hp:p≤l.length:=by
  unfold chk at h
  rw [Bool.and_eq_true]at h
  simpa using h.1
 obtain⟨h1,h2⟩:=flow_steps h hf rfl (fun k o hk=>by
  rw [List.getElem?_take]at hk
  split at hk
  ·rw [Nat.zero_add];exact hk
  ·cases hk) (fun k o E _ hE=>by simp at hE)
 refine W.draw hm hΓ p As Es h ⟨?_,dist_of hd,free_of hfr,fun i o E hi hE=>h2 i o E hi hE⟩ hT
 rw [h1,List.length_take]
 omega
inductive FlowT (P:Program)(Γ:Models)(N:Nat)(ops:Array Oper)(As:List (List Nat))(st0:St):Nat→List Oper→List (List Entry)→List (List Entry)→List Oper→Prop
 |done {i:Nat} {l:List Oper} {Es:List (List Entry)}:FlowT P Γ N ops As st0 i l Es Es l
 |step {i d:Nat} {o:Oper} {r rest:List Oper} {Es F:List (List Entry)} {E:List Entry}:o.dst=some d→d<N→entG P Γ ops (pickE' Es 0 (inL (ancO As i)) st0) o=some E→onlyS d E=true→FlowT P Γ N ops As st0 (i+1) r (Es++[E]) F rest→FlowT P Γ N ops As st0 i (o::r) Es F rest
theorem flowT_split {ops:Array Oper}{i:Nat}{l rest:List Oper}{Es F:List (List Entry)}(h:FlowT P Γ N ops As st0 i l Es F rest):∃pre,l=pre++rest∧Flow P Γ N ops As st0 i pre Es F:=by
 induction h with
 |done=>exact⟨[],rfl,.done⟩
 |step h1 h2 h3 h4 _ ih=>
  obtain⟨pre,rfl,h5⟩:=ih
  exact⟨_::pre,rfl,.step h1 h2 h3 h4 h5⟩
theorem W.drawsT (hm:P.follows .mixedOrders=true)(hΓ:GSound P Γ){id:Nat}(p:Nat)(As:List (List Nat)){rest:List Oper}{Es:List (List Entry)}(h:chk l p As=true)(hf:FlowT P Γ N l.toArray As st0 0 l [] Es rest)(hp:p+rest.length=l.length)(hd:distB Es=true)(hfr:freeB st0 Es=true)
  (hT:WL P γ0 w0 N l.toArray rest (pickE' Es 0 (fun _=>true) st0) Q):W P γ0 w0 N st0 (.region id l.toArray true) Q:=by
 obtain⟨pre,hl,h1⟩:=flowT_split hf
 have hpl:pre.length=p:=by rw [hl,List.length_append]at hp;omega
 refine W.draws hm hΓ p As h ?_ hd hfr ?_
 ·have:l.take p=pre:=by rw [hl];exact List.take_left' hpl
  rw [this]
  exact h1
 ·have:l.drop p=rest:=by rw [hl];exact List.drop_left' hpl
  rw [this]
  exact hT
theorem ent_mk {d:Nat}{st:St}(t:TypeId)(n c:Operand):entO P Γ st d (.makeSlice t n c)=makeL P d t (ev st n) (ev st c):=rfl
section
variable {ops:Array Oper}{i d:Nat}{r rest:List Oper}{Es F:List (List Entry)}{E:List Entry}{op:Op}{ty:TypeId}{pos:String}{after:Array Edge}{stA st:St}
theorem FlowT.opN (hA:pickE' Es 0 (inL (ancO As i)) st0=stA)(hN:d<N)(he:entO P Γ stA d op=some E)(ho:onlyS d E=true)(h:FlowT P Γ N ops As st0 (i+1) r (Es++[E]) F rest):FlowT P Γ N ops As st0 i (⟨some d,op,ty,pos,after,none⟩::r) Es F rest:=
 .step rfl hN (by rw [hA];exact he) ho h
theorem FlowT.opG {g:Nat×Bool}(hA:pickE' Es 0 (inL (ancO As i)) st0=stA)(hN:d<N)(hw:wantO ops stA (some g)=some true)(he:entO P Γ stA d op=some E)(ho:onlyS d E=true)(h:FlowT P Γ N ops As st0 (i+1) r (Es++[E]) F rest):FlowT P Γ N ops As st0 i (⟨some d,op,ty,pos,after,some g⟩::r) Es F rest:=
 .step rfl hN (by
  rw [hA]
  unfold entG
  simp only [hw]
  exact he) ho h
theorem FlowT.opF {g:Nat×Bool}(hA:pickE' Es 0 (inL (ancO As i)) st0=stA)(hN:d<N)(hw:wantO ops stA (some g)=some false)(h:FlowT P Γ N ops As st0 (i+1) r (Es++[[.slot d (one .udf)]]) F rest):FlowT P Γ N ops As st0 i (⟨some d,op,ty,pos,after,some g⟩::r) Es F rest:=
 .step rfl hN (by
  rw [hA]
  unfold entG
  simp only [hw]) (by simp [onlyS]) h
theorem ent_move (x:Operand):entO P Γ st d (.move x)=some [.slot d (ev st x)]:=rfl
theorem ent_assign (x:Operand):entO P Γ st d (.assign x)=some [.slot d (ev st x)]:=rfl
theorem ent_pick (c x y:Operand):entO P Γ st d (.pick c x y)=valL d (pickE (ev st c) (ev st x) (ev st y)):=rfl
theorem ent_load (t:TypeId)(x:Operand):entO P Γ st d (.load t x)=valL d (loadE P st t (ev st x)):=rfl
theorem ent_nilCheck (x:Operand):entO P Γ st d (.nilCheck x)=valL d (nilE (ev st x)):=rfl
theorem ent_binOp (o:BinOp)(t u:TypeId)(x y:Operand):entO P Γ st d (.binOp o t x y u)=valL d (binE P o t (ev st x) (ev st y)):=rfl
theorem ent_unOp (o:UnOp)(t:TypeId)(x:Operand):entO P Γ st d (.unOp o t x)=valL d (scal (fun a _=>pun o a) (ev st x) (ev st x)):=rfl
theorem ent_convert (s t:TypeId)(x:Operand):entO P Γ st d (.convert s t x)=valL d (convE P st s t (ev st x)):=rfl
theorem ent_slice (t:TypeId)(x:Operand)(lo hi:Option Operand):entO P Γ st d (.slice t x lo hi none)=valL d (sliceE P st t (ev st x) (optE st lo) (optE st hi)):=rfl
theorem ent_fieldAddr (s:TypeId)(x:Operand)(f:Nat):entO P Γ st d (.fieldAddr s x f)=valL d (fieldAddrE P s f (ev st x)):=rfl
theorem ent_field (s:TypeId)(x:Operand)(f:Nat):entO P Γ st d (.field s x f)=valL d (fieldE P s f (ev st x)):=rfl
theorem ent_indexAddr (t:TypeId)(x j:Operand):entO P Γ st d (.indexAddr t x j)=valL d (indexAddrE P st t (ev st x) (ev st j)):=rfl
theorem ent_index (t:TypeId)(x j:Operand):entO P Γ st d (.index t x j)=valL d (indexE P t (ev st x) (ev st j)):=rfl
theorem ent_extract (x:Operand)(j:Nat):entO P Γ st d (.extract x j)=valL d (tupE j (ev st x)):=rfl
theorem ent_len (t:TypeId)(x:Operand):entO P Γ st d (.call ⟨.builtin .len, #[x], #[t]⟩)=valL d ((lenO P st t (ev st x)).map fun n=>one (.sc (.int .i64 n))):=rfl
theorem ent_min (ts:Array TypeId)(x y:Operand):entO P Γ st d (.call ⟨.builtin .min, #[x,y],ts⟩)=valL d (minE false (ev st x) (ev st y)):=rfl
theorem ent_max (ts:Array TypeId)(x y:Operand):entO P Γ st d (.call ⟨.builtin .max, #[x,y],ts⟩)=valL d (minE true (ev st x) (ev st y)):=rfl
theorem ent_alloc (t:TypeId):entO P Γ st d (.alloc t)=allocL P d t:=rfl
theorem ent_box (t:TypeId)(x:Operand):entO P Γ st d (.box t x)=boxL d (ev st x):=rfl
theorem ent_lit (t:TypeId)(n:Nat)(q:List (Nat×Operand)):entO P Γ st d (.buildSlice t n q.toArray)=litL P st d t n q:=by
 show litL P st d t n q.toArray.toList=_
 simp
theorem ent_build (t:TypeId)(q:List (Nat×Operand)):entO P Γ st d (.build t q.toArray)=valL d (buildE P st t q):=by
 show valL d (buildE P st t q.toArray.toList)=_
 simp
theorem ent_fn (f:FuncId)(q:List Operand)(ts:Array TypeId):entO P Γ st d (.call ⟨.value (.func f),q.toArray,ts⟩)=callL Γ st d f q:=by
 show callL Γ st d f q.toArray.toList=_
 simp
theorem ent_makeFunc (f:FuncId)(q:List Operand):entO P Γ st d (.makeFunc (.func f) #[] q.toArray)=valL d ((capsE (q.map (ev st))).map fun ns=>one (.fn f ns)):=by
 show valL d (if(#[]:Array Operand).size=0 then(capsE (q.toArray.toList.map (ev st))).map fun ns=>one (.fn f ns)else none)=_
 simp
theorem valL_some (v:PV):valL d (some v)=some [.slot d v]:=rfl
end
end
end PZ
section PBr
def rowsF {α:Type}(f:α→List Value)(l:List α):List (List Leaf):=l.map fun x=>(f x).map Leaf.sc
theorem rowsF_len {α:Type}(f:α→List Value)(l:List α):(rowsF f l).length=l.length:=List.length_map _
theorem rowsF_get {α:Type}(f:α→List Value)(l:List α)(k:Nat)(h:k<l.length):(rowsF f l)[k]?=some ((f l[k]).map Leaf.sc):=by simp [rowsF,h]
theorem rowsF_flat {α:Type}(f:α→List Value)(l:List α):flatB (rowsF f l)=true:=flatB_map _ l fun x=>by
 rw [List.all_map]
 exact List.all_eq_true.2 fun _ _=>rfl
theorem rowsF_wid {α:Type}{f:α→List Value}{s:Nat}(hf:∀x,(f x).length=s)(l:List α):wid s (rowsF f l):=by
 intro row hr
 obtain⟨x,_,rfl⟩:=List.mem_map.1 hr
 simp [hf]
theorem rowsF_app {α:Type}(f:α→List Value)(l m:List α):rowsF f l++rowsF f m=rowsF f (l++m):=(List.map_append).symm
theorem rowsF_set {α:Type}(f:α→List Value)(l:List α)(k:Nat)(x:α):(rowsF f l).set k ((f x).map Leaf.sc)=rowsF f (l.set k x):=by
 unfold rowsF
 rw [List.map_set]
theorem rowsF_take {α:Type}(f:α→List Value)(l:List α)(k:Nat):(rowsF f l).take k=rowsF f (l.take k):=(List.map_take).symm
theorem rowsF_drop {α:Type}(f:α→List Value)(l:List α)(k:Nat):(rowsF f l).drop k=rowsF f (l.drop k):=(List.map_drop).symm
theorem sc_inj {a b:List Value}(h:a.map Leaf.sc=b.map Leaf.sc):a=b:=by
 induction a generalizing b with
 |nil=>cases b with
  |nil=>rfl
  |cons _ _=>simp at h
 |cons x a ih=>
  cases b with
  |nil=>simp at h
  |cons y b=>
   simp only [List.map_cons,List.cons.injEq,Leaf.sc.injEq]at h
   rw [h.1,ih h.2]
theorem rowsF_inj {α:Type}{f:α→List Value}(hf:∀x y,f x=f y→x=y){a b:List α}(h:rowsF f a=rowsF f b):a=b:=by
 induction a generalizing b with
 |nil=>cases b with
  |nil=>rfl
  |cons _ _=>simp [rowsF]at h
 |cons x a ih=>
  cases b with
  |nil=>simp [rowsF]at h
  |cons y b=>
   simp only [rowsF,List.map_cons,List.cons.injEq]at h
   rw [hf _ _ (sc_inj h.1),ih h.2]
theorem cells_agg (cs:Array Value):(Value.agg cs).cells=cs:=rfl
theorem cells_int (k:IntKind)(n:Int):(Value.int k n).cells= #[.int k n]:=rfl
theorem cells_bool (b:Bool):(Value.bool b).cells= #[.bool b]:=rfl
theorem cells_str (b:ByteArray):(Value.string b).cells= #[.string b]:=rfl
theorem cells_sl (A:Option Addr)(n c:Nat):(Value.slice A n c).cells= #[.slice A n c]:=rfl
theorem wid_nil (s:Nat):wid s []=True:=eq_true fun row h=>absurd h (by simp)
theorem wid_cons (s:Nat)(row:List Leaf)(rs:List (List Leaf)):wid s (row::rs)=(row.length=s∧wid s rs):=propext ⟨fun h=>⟨h row List.mem_cons_self,fun r hr=>h r (List.mem_cons_of_mem _ hr)⟩,fun h r hr=>by
 rcases List.mem_cons.1 hr with rfl|hr
 ·exact h.1
 ·exact h.2 r hr⟩
theorem flatB_nil:flatB []=true:=rfl
theorem flatB_cons (row:List Leaf)(rs:List (List Leaf)):flatB (row::rs)=(row.all Leaf.isSc&&flatB rs):=rfl
section
variable {α:Type}{f:α→List Value}{s:Nat}{w w':World}{v:Value}{l:List α}{B:Nat}
theorem RdS.rep (hf:∀x,(f x).length=s)(h1:∀x,∀u∈f x,u.oneCell'=true)(h:RdS w w.heap.size s f v l):RepL w none0 (.sl (rowsF f l)) v:=by
 obtain⟨A,c,rfl,hlc,hcm,hn⟩:=h
 by_cases hne:l=[]
 ·subst hne
  exact .emp hcm
 ·obtain⟨b,off,rfl,hb,hc⟩:=hn hne
  have hlen:=rowsF_len f l
  have:=RepL.sl (w:=w) (γ:=none0) (rows:=rowsF f l) (b:=b) (off:=off) (s:=s) (cap:=c) (fun i j=>((l[i]?).bind fun x=>(f x)[j]?).getD default) rfl hb (by rw [hlen];exact hlc) hcm (rowsF_wid hf l) (fun i row j x hi hj=>?_) (fun i row j x hi hj=>?_)
  ·rw [hlen]at this
   exact this
  ·unfold rowsF at hi
   rw [List.getElem?_map]at hi
   obtain⟨y,hy,rfl⟩:=oms hi
   rw [List.getElem?_map]at hj
   obtain⟨u,hu,rfl⟩:=oms hj
   simp only [hy,Option.bind_some,hu,Option.getD_some]
   exact hc i y hy j u hu
  ·unfold rowsF at hi
   rw [List.getElem?_map]at hi
   obtain⟨y,hy,rfl⟩:=oms hi
   rw [List.getElem?_map]at hj
   obtain⟨u,hu,rfl⟩:=oms hj
   simp only [hy,Option.bind_some,hu,Option.getD_some]
   exact .sc (h1 y u (List.mem_of_getElem? hu))
theorem rep_RdS (hf:∀x,(f x).length=s)(h:RepL w none0 (.sl (rowsF f l)) v):RdS w w.heap.size s f v l:=by
 have hlen:=rowsF_len f l
 generalize hr:rowsF f l=rows at h
 cases h with
 | @emp A c hc=>
  have:l=[]:=by
   cases l with
   |nil=>rfl
   |cons _ _=>simp [rowsF]at hr
  subst this
  exact⟨A,c,rfl,Nat.zero_le _,hc,fun h=>absurd rfl h⟩
 | @sl _ b off s' cap val g1 g2 g3 g4 g5 g6 g7=>
  rw [hr]at hlen
  rw [hlen]at g3⊢
  refine⟨_,cap,rfl,g3,g4,fun hne=>⟨b,off,rfl,g2,fun i x hi j u hu=>?_⟩⟩
  have hrow:rows[i]?=some ((f x).map Leaf.sc):=by rw [←hr];unfold rowsF;rw [List.getElem?_map,hi];rfl
  have hcell:((f x).map Leaf.sc)[j]?=some (.sc u):=by rw [List.getElem?_map,hu];rfl
  have hs:s'=s:=by rw [←g5 _ (List.mem_of_getElem? hrow)];simp [hf]
  subst hs
  have e1:=g6 i _ j _ hrow hcell
  have e2:=g7 i _ j _ hrow hcell
  rw [e1]
  generalize val i j=q at e2
  cases e2
  rfl
end
section
variable {P:Program}{f:FuncId}
theorem Sound.says {α:Type}{ok:α→Prop}{enc:α→List Arg}{g:α→Value}(h1:∀x,(g x).oneCell'=true)(h:∀x vs w,ok x→RepAs w (enc x) vs→Calls P f vs.toArray w fun e w'=>e=.returned (g x)∧Below w.heap.size w w'):Sound P f (Go.Proofs.YtfgkfcfplodaoaaGreatDoor.mdl ok enc fun x=>.comp false [.ro (.sc (g x))]):=by
 intro args r vs w _ hm hargs
 unfold Go.Proofs.YtfgkfcfplodaoaaGreatDoor.mdl at hm
 split at hm
 ·rename_i he
  cases hm
  obtain⟨h2,h3⟩:=he.choose_spec
  rw [←h3]at hargs
  refine(h _ vs w h2 hargs).mono fun e w' ⟨hq,hb⟩=>?_
  subst hq
  refine⟨_,fun b=>if b<w.heap.size then some 0 else none,fun _=>undef,rfl,hb,fun b hb=>by simp [hb],fun b k hb hk=>?_,⟨_,rfl,.sc (h1 _)⟩⟩
  simp [Nat.not_lt.2 hb]at hk
 ·cases hm
theorem RepAs.one {w:World}{x:Arg}{vs:List Value}(h:RepAs w [x] vs):∃v,vs=[v]∧RepA w x v:=by
 obtain⟨h1,h2⟩:=h
 obtain⟨v,h3,h4⟩:=h2 0 x rfl
 match vs,h1 with
 |[u],_=>simp at h3;subst h3;exact⟨u,rfl,h4⟩
theorem RepAs.cons {w:World}{x:Arg}{xs:List Arg}{v:Value}{vs:List Value}(h:RepA w x v)(hr:RepAs w xs vs):RepAs w (x::xs) (v::vs):=
 ⟨by simp [hr.1],fun j y hj=>by
  cases j with
  |zero=>simp at hj;subst hj;exact⟨v,rfl,h⟩
  |succ j=>simpa using hr.2 j y (by simpa using hj)⟩
theorem RepAs.nil {w:World}:RepAs w [] []:=⟨rfl,fun j y hj=>by simp at hj⟩
theorem repA_list {w:World}{rows:List (List Leaf)}{v:Value}(h:RepL w none0 (.sl rows) v):RepA w (.val false [.sl rows]) v:=⟨_,rfl,h⟩
theorem repA_list_inv {w:World}{rows:List (List Leaf)}{v:Value}(h:RepA w (.val false [.sl rows]) v):RepL w none0 (.sl rows) v:=by
 obtain⟨l,e,h⟩:=h
 cases e
 exact h
theorem repA_sc {w:World}{u:Value}(h:u.oneCell'=true):RepA w (.val false [.sc u]) u:=⟨_,rfl,.sc h⟩
end
end PBr
end Go.Proofs.YtfgkfcfplodaoaaGreatDoor
