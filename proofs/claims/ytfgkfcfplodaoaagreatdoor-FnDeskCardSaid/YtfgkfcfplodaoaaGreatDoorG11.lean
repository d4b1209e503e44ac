/-
  Put together out of 3 texts.
-/
import Derived.Test.YtfgkfcfplodaoaaGreatDoorHPEvCur
set_option linter.unusedSimpArgs false
set_option linter.unusedVariables false
set_option maxRecDepth 100000
namespace Go.Proofs.YtfgkfcfplodaoaaGreatDoor
open Go Go.RowKit
section
section
variable {P:Program}{γ0:Nat→Option Nat}{w0:World}{N:Nat}{st:St}{a:Act}{w:World}{η:Nat→Value}{γ:Nat→Option Nat}{Q:Exit→Act→World→Prop}
section
variable {α:Type}{enc:α→List Value}{k:Nat}
theorem flat_lenK (hk:∀x,(enc x).length=k)(l:List α):((l.map enc).flatten).length=l.length*k:=by
 have:=flatten_len (s:=k) (rows:=l.map enc) (fun row hr=>by
  obtain⟨x,_,rfl⟩:=List.mem_map.1 hr
  exact hk x)
 simpa using this
end
theorem scs_eq {l:List Value}{us:List Value}(h:RepLs w γ (l.map Leaf.sc) us):us=l∧∀v∈l,v.oneCell'=true:=by
 obtain⟨h1,h2⟩:=h
 rw [List.length_map]at h1
 have key:∀j (v:Value),l[j]?=some v→us[j]?=some v∧v.oneCell'=true:=fun j v hj=>by
  obtain⟨u,h3,h4⟩:=h2 j (.sc v) (by rw [List.getElem?_map,hj];rfl)
  cases h4 with
  |sc h5=>exact⟨h3,h5⟩
 refine⟨List.ext_getElem? fun j=>?_,fun v hv=>?_⟩
 ·cases hj:l[j]? with
  |some v=>exact(key j v hj).1
  |none=>
   rw [List.getElem?_eq_none_iff]at hj⊢
   omega
 ·obtain⟨j,hj⟩:=List.mem_iff_getElem?.1 hv
  exact(key j v hj).2
theorem scs_rep {l:List Value}(h:∀v∈l,v.oneCell'=true):RepLs w γ (l.map Leaf.sc) l:=by
 refine⟨by simp,fun j x hj=>?_⟩
 rw [List.getElem?_map]at hj
 obtain⟨u,h1,rfl⟩:=oms hj
 exact⟨u,h1,.sc (h u (List.mem_of_getElem? h1))⟩
theorem rowsF_flatten {α:Type}(f:α→List Value)(l:List α):(rowsF f l).flatten=((l.map f).flatten).map Leaf.sc:=by
 unfold rowsF
 induction l with
 |nil=>rfl
 |cons x l ih=>simp [ih]
theorem At.retCut {fn:Func}{b cap t m:Nat}{cur0:Array Value}{α:Type}{enc:α→List Value}{e s:Nat}{fl:Fl}{rows:List (List Leaf)}(l':List α)(hs:0<s)(hN:N≤999)(hfn:fn.results.toList=[.tmp t])(hh:w0.heap[b]?=some (.cells cur0 e (0,0)))(hsz:cur0.size=cap*s)(hl:0<rows.length)
  (ht:(getS st t=one (.all 999)∧m=rows.length)∨getS st t=one (.ref 999 0 m)) (hb:getB st 999=some (.arr fl e s rows)) (hm:rows.take m=rowsF enc l') (hml:m≤rows.length):
  At (own1 b) w0 N st .ret (bodyPost P fn fun e' w'=>e'=.returned (.slice (some ⟨b,0,none⟩) l'.length cap)∧
   ∃cur':Array Value,Below w0.heap.size (putO w0 b (.cells cur' e (0,0))) w'∧cur'.size=cap*s∧cur'.toList.take (l'.length*s)=(l'.map enc).flatten):=by
 intro a w ⟨η,γ,h⟩
 have hl':l'.length=m:=by rw [←rowsF_len enc l',←hm,List.length_take];omega
 obtain⟨xs,⟨ho1,ho2⟩,hr,hw,_,_⟩:=h.blks 999 _ hb
 have hη:∃cur,η 999=.slice (some ⟨b,0,none⟩) rows.length cap∧w.heap[b]?=some (.cells cur e (0,0))∧cur.size=cap*s∧cur.toList.take (rows.length*s)=xs:=by
  rcases h.pinA hN fl e s _ hb with⟨_,h1⟩|⟨b0,cap0,h1,h2,h3⟩
  ·omega
  ·have hb0:=own1_some h2
   subst hb0
   have hc0:cap0=cap:=by
    simp only [szB,hh,Option.some.injEq]at h3
    rw [hsz]at h3
    exact(Nat.eq_of_mul_eq_mul_right hs h3).symm
   subst hc0
   rcases ho2 with⟨ho,_⟩|⟨b1,cap1,cur,ho,_,q1,q2,q3,q4,q5⟩
   ·rw [h1]at ho;cases ho
   ·rw [h1]at ho
    cases ho
    exact⟨cur,h1,q1,q4,q5⟩
 obtain⟨cur,hη,g1,g2,g3⟩:=hη
 have hval:a.tmps.getD t undef=.slice (some ⟨b,0,none⟩) m cap:=by
  have h0:=h.slots t
  rcases ht with⟨ht,rfl⟩|ht
  ·rw [ht]at h0
   have:=(RepV.one_iff.1 h0).1
   rw [this,hη]
  ·rw [ht]at h0
   obtain⟨fl1,e1,s1,rows1,k1,k2,k3⟩:=RepV.one_iff.1 h0
   rw [hb]at k1
   cases k1
   rcases k3 with⟨k3,_⟩|⟨b2,c2,cap2,k3,k4,k5,k6,k7⟩
   ·rw [hη]at k3;cases k3
   ·rw [hη]at k3
    cases k3
    rw [k4,Nat.zero_mul]
    rw [Nat.add_zero]at k7
    rw [k7]
 refine⟨h.defers,.slice (some ⟨b,0,none⟩) m cap,?_,by rw [hl'],cur,?_,g2,?_⟩
 ·unfold results
  have hfn':fn.results= #[.tmp t]:=by
   have:=congrArg List.toArray hfn
   simpa using this
  rw [hfn']
  rw [Array.getD_eq_getD_getElem?]at hval
  simp [hval]
 ·refine⟨h.os,h.tape,h.output,by rw [putO_size];exact h.size,fun k hk=>?_⟩
  by_cases ek:k=b
  ·subst ek
   rw [putO_same _ hk]
   exact g1
  ·rw [putO_other _ ek]
   exact(h.low k hk (own1_other ek)).2
 ·have e1:cur.toList.take (m*s)=xs.take (m*s):=by
   rw [←g3,List.take_take,Nat.min_eq_left (Nat.mul_le_mul_right _ hml)]
  have e2:=hr.take (m*s)
  rw [←take_rows hw hml,hm,rowsF_flatten]at e2
  rw [hl',e1]
  exact(scs_eq e2).1
theorem zeroCells_len (z:Array Value)(n:Nat):(Builtin.zeroCells z n).toList.length=n*z.size:=by simp [Builtin.zeroCells]
theorem zeroCells_rep (z:Array Value)(n:Nat):(Builtin.zeroCells z n).toList=(List.replicate n z.toList).flatten:=by
 have hl:(List.replicate n z.toList).flatten.length=n*z.size:=by rw [List.length_flatten];simp
 refine List.ext_getElem? fun i=>?_
 by_cases hi:i<n*z.size
 ·have hz:0<z.size:=Nat.pos_of_ne_zero fun e=>by rw [e]at hi;simp at hi
  have hm:i%z.size<z.size:=Nat.mod_lt _ hz
  have hd:i/z.size<n:=Nat.div_lt_of_lt_mul (by rw [Nat.mul_comm];exact hi)
  have h1:=flatten_row (s:=z.size) (rows:=List.replicate n z.toList) (fun row hr=>by rw [List.eq_of_mem_replicate hr];simp) (i:=i/z.size) (row:=z.toList) (by simp [hd]) (i%z.size) hm
  rw [Nat.div_add_mod' i z.size]at h1
  rw [h1]
  simp [Builtin.zeroCells,hi,hm]
 ·rw [List.getElem?_eq_none (by rw [zeroCells_len];omega),List.getElem?_eq_none (by rw [hl];omega)]
theorem zeroCells_one {z:Array Value}{n:Nat}(h:∀v∈z.toList,v.oneCell'=true):∀v∈(Builtin.zeroCells z n).toList,v.oneCell'=true:=by
 intro v hv
 simp only [Builtin.zeroCells,Array.toList_map,List.mem_map]at hv
 obtain⟨i,hi,rfl⟩:=hv
 have hi:i<n*z.size:=by simpa using hi
 have hz:0<z.size:=Nat.pos_of_ne_zero fun e=>by rw [e]at hi;simp at hi
 have hm:i%z.size<z.size:=Nat.mod_lt _ hz
 rw [getElem!_pos z _ hm]
 exact h _ (by simp)
theorem run_clear {P:Program}{w:World}{t ty e s:Nat}{z:Value}(he:elT P t=some e)(hz:zeroT P e=some z)(hzs:z.cells.size=s)(h1:∀v∈z.cells.toList,v.oneCell'=true){b o n c:Nat}{cur:Array Value}{tt:TypeId}(hn:0<n)(hh:w.heap[b]?=some (.cells cur tt (0,0)))(hf:o+n*s≤cur.size):
  (Builtin.clear_ #[t] ty #[.slice (some ⟨b,o,none⟩) n c]).run P w=.ok (.tuple #[]) (w.setRow b (cur.toList.take o++(Builtin.zeroCells z.cells n).toList++cur.toList.drop (o+n*s)).toArray):=by
 have hlen:=zeroCells_len z.cells n
 rw [hzs]at hlen
 have hst:=run_storeCells_at P b o tt (Builtin.zeroCells z.cells n).toList 0 cur w hh (by rw [hlen];simpa using hf) (zeroCells_one h1)
 rw [hlen]at hst
 simp only [Nat.add_zero]at hst
 have hzv:∀w,(zeroValue e).run P w=.ok z w:=fun w=>by
  obtain⟨i,hi,hz'⟩:=Option.bind_eq_some_iff.1 hz
  simp [zeroValue,typeInfo,hi,hz']
 obtain⟨m,rfl⟩:∃m,n=m+1:=⟨n-1,by omega⟩
 simp [Builtin.clear_,run_underlying (elT_sound he),hzv,hst]
theorem WL.opClear {ops:Array Oper}{r:List Oper}{n off len:Nat}{x0:Operand}{t:TypeId}{ty:TypeId}{pos:String}{after:Array Edge}{s e:Nat}{z:Value}{zs:List Value}{fl:Fl}{rows:List (List Leaf)}
  (hp:ev st x0=one (.ref n off len)) (hl:0<len) (hb:getB st n=some (.arr fl e s rows)) (hol:off+len=rows.length) (he:elT P t=some e) (hz:zeroT P e=some z) (hzs:z.cells.toList=zs) (hzl:zs.length=s) (h1:∀v∈zs,v.oneCell'=true) (hs:0<s) (hns:fl.nst=false:=by rfl)
  (h:∀rows',rows'.length=rows.length→rows'.take off=rows.take off→WL P γ0 w0 N ops r (.blk n (.arr .no e s rows')::st) Q):
  WL P γ0 w0 N ops (⟨none,.call ⟨.builtin .clear, #[x0], #[t]⟩,ty,pos,after,none⟩::r) st Q:=fun a w hR=>by
 subst hzs
 refine wpList_plain rfl fun K hK=>?_
 obtain⟨η,γ,hI⟩:=hR
 have h0:=ev_sound hI x0
 rw [hp]at h0
 obtain⟨fl1,e1,s1,rows1,k1,k2,k3⟩:=RepV.one_iff.1 h0
 rw [hb]at k1
 cases k1
 obtain⟨xs,⟨ho1,ho2⟩,hr,hw,hgo,hff⟩:=hI.blks n _ hb
 rw [vw_of hns]at hr
 rcases k3 with⟨_,_,hz0⟩|⟨b,c,cap,k3,k4,k5,k6,k7⟩
 ·omega
 rcases ho2 with⟨ho,_⟩|⟨b1,cap1,cur,ho,_,q1,q2,q3,q4,q5⟩
 ·rw [ho]at k3;cases k3
 rw [ho]at k3
 cases k3
 have hgb:γ b=some n:=hgo b (by rw [ho];rfl)
 have hzs:z.cells.size=s:=by rw [←Array.length_toList];exact hzl
 have hm:(off+len)*s≤c*s:=Nat.mul_le_mul_right _ (by omega)
 rw [Nat.add_mul]at hm
 have hrun:=run_clear (P:=P) (w:=w) (t:=t) (ty:=ty) (n:=len) (c:=cap) (o:=off*s) he hz hzs h1 hl q1 (by omega)
 rw [←k4]at hrun
 rw [zeroCells_rep]at hrun
 have hzr:=scs_rep (w:=w.setRow b (cur.toList.take (off*s)++(List.replicate len z.cells.toList).flatten++cur.toList.drop (off*s+len*s)).toArray) (γ:=γ) (l:=(List.replicate len z.cells.toList).flatten) (fun v hv=>by
  obtain⟨row,hr1,hr2⟩:=List.mem_flatten.1 hv
  rw [List.eq_of_mem_replicate hr1]at hr2
  exact h1 v hr2)
 have hrl:((List.replicate len (z.cells.toList.map Leaf.sc)).flatten)=((List.replicate len z.cells.toList).flatten).map Leaf.sc:=by
  rw [List.map_flatten,List.map_replicate]
 have hwt:∀row∈rows.take off,row.length=s:=fun row hr=>hw row (List.mem_of_mem_take hr)
 have hft:(rows.take off).flatten=rows.flatten.take (off*s):=by
  have e1:=flatten_len hwt
  have e2:(rows.take off).flatten.length=off*s:=by rw [e1,List.length_take];congr 1;omega
  conv=>rhs;rw [←List.take_append_drop off rows,List.flatten_append,←e2,List.take_left]
 have hwid:∀row∈rows.take off++List.replicate len (z.cells.toList.map Leaf.sc),row.length=s:=fun row hr=>by
  rcases List.mem_append.1 hr with hr|hr
  ·exact hwt row hr
  ·rw [List.eq_of_mem_replicate hr,List.length_map,hzl]
 have hlen':(rows.take off++List.replicate len (z.cells.toList.map Leaf.sc)).length=rows.length:=by
  rw [List.length_append,List.length_take,List.length_replicate];omega
 have hxl:xs.length=rows.length*s:=ho1
 have hms:rows.length*s=off*s+len*s:=by rw [←hol,Nat.add_mul]
 have hxt:(xs.take (off*s)).length=off*s:=by rw [List.length_take];omega
 have hzfl:(List.replicate len z.cells.toList).flatten.length=len*s:=by rw [List.length_flatten];simp [hzl]
 have hct:cur.toList.take (off*s)=xs.take (off*s):=by
  rw [←q5,List.take_take,Nat.min_eq_left (by omega)]
 have hcz:cur.toList.length=cur.size:=by simp
 refine wp_value (u:=.tuple #[]) (w':=w.setRow b (cur.toList.take (off*s)++(List.replicate len z.cells.toList).flatten++cur.toList.drop (off*s+len*s)).toArray) (by unfold execOp;simp [resolve,invoke,builtin,hrun]) (hK _ _ (h (rows.take off++List.replicate len (z.cells.toList.map Leaf.sc)) hlen' (by rw [List.take_append_of_le_length (by rw [List.length_take];omega),List.take_take,Nat.min_self]) _ _ ⟨η,γ,?_⟩))
 refine hI.turn n _ _ hb b hgb _ ⟨rfl,rfl,hlen',fun e'=>by rw [hns]at e';cases e'⟩ fun hn hk=>⟨xs.take (off*s)++(List.replicate len z.cells.toList).flatten,⟨by rw [List.length_append,hxt,hzfl,hlen',hms],.inr ⟨b,c,_,by rw [hlen'];exact ho,Nat.zero_le _,setRow_heap w b cur _ e _ q1,by rw [hlen'];exact q2,q3,by
   simp only [List.size_toArray,List.length_append,List.length_take,List.length_drop,hzfl,hcz]
   omega,by
   rw [List.toList_toArray,hlen',hct,List.take_append_of_le_length (by rw [List.length_append,hxt,hzfl];omega),List.take_of_length_le (by rw [List.length_append,hxt,hzfl];omega)]⟩⟩,?_,hwid,hgo,⟨fun hf=>(by cases hf),fun hf=>(by cases hf),fun _ _ hf=>(by cases hf)⟩⟩
 rw [vw_of rfl,List.flatten_append,hrl,hft]
 refine RepLs.append ?_ hzr
 refine RepLs.kp hk ⟨by rw [List.length_take,List.length_take,hr.1],fun j x hj=>?_⟩
 rw [List.getElem?_take]at hj⊢
 split at hj
 ·rename_i hlt
  rw [if_pos hlt]
  exact hr.2 j x hj
 ·cases hj
end
def idxP {α:Type}(p:α→Bool)(l:List α):Int:=if l.findIdx p<l.length then(l.findIdx p:Int)else-1
theorem idxP_at {α:Type}{p:α→Bool}{l:List α}{k:Nat}(hk:k<l.length)(hn:∀j,(h:j<k)→p l[j]=false)(hx:p l[k]=true):idxP p l=k:=by
 have:l.findIdx p=k:=(List.findIdx_eq hk).2 ⟨hx,fun j hj=>hn j hj⟩
 unfold idxP
 rw [this,if_pos hk]
theorem idxP_no {α:Type}{p:α→Bool}{l:List α}(hn:∀j,(h:j<l.length)→p l[j]=false):idxP p l= -1:=by
 unfold idxP
 rw [if_neg]
 intro h
 have h1:=List.findIdx_getElem (p:=p) (w:=h)
 rw [hn _ h]at h1
 cases h1
end
section
section
variable {P:Program}{γ0:Nat→Option Nat}{w0:World}{N:Nat}{st:St}{a:Act}{w:World}{η:Nat→Value}{γ:Nat→Option Nat}{Q:Exit→Act→World→Prop}
theorem Inv.turnW (h:Inv γ0 w0 N st a w η γ)(n:Nat){fl:Fl}{e s:Nat}{rows rows':List (List Leaf)}(hb0:getB st n=some (.arr fl e s rows))(hlen:rows'.length=rows.length)(g:Nat)(hg:γ g=some n)(w':World)
  (hos:w'.os=w.os) (htape:w'.tape=w.tape) (hout:w'.output=w.output) (hsize:w.heap.size≤w'.heap.size) (hold:∀k,k<w.heap.size→k≠g→w'.heap[k]?=w.heap[k]?)
  (hB:RepB (getB (.blk n (.arr fl e s rows')::st)) η γ w' n (.arr fl e s rows')):
  Inv γ0 w0 N (.blk n (.arr fl e s rows')::st) a w' η γ:=by
 have hlive:∀k m,γ k=some m→k<w.heap.size:=fun k m hk=>(h.live k m hk).1
 have hk:Kp w w' γ γ:=⟨hsize,fun k hk hgk=>⟨hgk,hold k hk (fun e=>by rw [e,hg]at hgk;cases hgk)⟩⟩
 have hget:∀m,m≠n→getB (.blk n (.arr fl e s rows')::st) m=getB st m:=fun m hm=>if_neg (fun e=>hm e.symm)
 have hn:Nm (getB st) (getB (.blk n (.arr fl e s rows')::st)) η η (fun _=>True):=by
  intro m b' _ hb
  refine⟨rfl,?_⟩
  by_cases hm:m=n
  ·subst hm
   rw [hb0]at hb
   cases hb
   exact⟨fl,rows',if_pos rfl,hlen⟩
  ·cases b' with
   |arr fl e s rows=>exact⟨fl,rows,by rw [hget m hm];exact hb,rfl⟩
   |box ls=>exact⟨ls,by rw [hget m hm];exact hb⟩
 have hgm:∀m b0,m≠n→γ b0=some m→γ b0=some m∧w'.heap[b0]?=w.heap[b0]?:=fun m b0 hm hb0=>⟨hb0,hold b0 (hlive b0 m hb0) (fun e=>by rw [e,hg]at hb0;cases hb0;exact hm rfl)⟩
 refine {h with slots:=fun t=>(h.slots t).kp hn hk,blks:=fun m b' hb=>?_,live:=fun b0 m hb=>?_,low:=fun b0 hb hg0=>?_,size:=Nat.le_trans h.size hsize,os:=hos.trans h.os,tape:=htape.trans h.tape,output:=hout.trans h.output,pin:=fun h9 b2 ls hb hbx=>?_,pinA:=h.pinA.to fun h9 fl1 e1 s1 rows1 hbx=>⟨rfl,?_⟩}
 ·by_cases hm:m=n
  ·subst hm
   rw [getB_hit]at hb
   cases hb
   exact hB
  ·rw [hget m hm]at hb
   have h1:=h.blks m b' hb
   cases b' with
   |box ls=>exact RepB.kp_box hn hk h1 rfl (hgm m · hm)
   |arr fl e s rows=>exact RepB.kp_arr hk h1 rfl (hgm m · hm)
 ·obtain⟨h1,h2,h3⟩:=h.live b0 m hb
  refine⟨Nat.lt_of_lt_of_le h1 hsize,?_,?_⟩
  ·by_cases hm:m=n
   ·subst hm
    rw [hb0]at h2
    rw [getB_hit]
    exact h2
   ·rw [hget m hm];exact h2
  ·by_cases hm:m=n
   ·subst hm;simp [getB]
   ·rw [hget m hm];exact h3
 ·obtain⟨h1,h2⟩:=h.low b0 hb hg0
  exact⟨h1,by rw [hold b0 (Nat.lt_of_lt_of_le hb h.size) (fun e=>by rw [e,hg]at h1;cases h1)];exact h2⟩
 ·by_cases hm:(999:Nat)=n
  ·subst hm
   rw [getB_hit]at hbx
   cases hbx
  ·rw [hget 999 hm]at hbx
   exact h.pin h9 b2 ls hb hbx
 ·by_cases hm:(999:Nat)=n
  ·subst hm
   rw [getB_hit]at hbx
   cases hbx
   exact⟨_,_,hb0,hlen⟩
  ·rw [hget 999 hm]at hbx
   exact⟨_,_,hbx,rfl⟩
end
end
section
section
variable {P:Program}{Γ:Models}{γ0:Nat→Option Nat}{w0:World}{N:Nat}{st st':St}{a:Act}{w:World}{η:Nat→Value}{γ γ':Nat→Option Nat}{Q:Exit→Act→World→Prop}
def rlN (st:St):PL→Option RL
 |.sc v=>some (.ro (.sc v))
 |.nil=>some (.ro (.sl []))
 |.sl rows=>some (.ro (.sl rows))
 |.all n=>match getB st n with
  |some (.arr fl e s rows)=>some (.own fl e s rows)
  |_=>none
 |_=>none
def rlsN (st:St):List PL→Option (List RL)
 |[]=>some []
 |l::r=>match rlN st l,rlsN st r with
  |some x,some y=>some (x::y)
  |_,_=>none
def compN (st:St):PV→Option (Bool×List RL)
 |.comp g ls=>(rlsN st ls).map fun x=>(g,x)
 |_=>none
def compsN (P:Program)(st:St):List ResultVar→Option (List (Bool×List RL))
 |[]=>some []
 |x::r=>match (resV P st x).bind (compN st),compsN P st r with
  |some a,some b=>some (a::b)
  |_,_=>none
def resN (P:Program)(st:St)(rs:List ResultVar):Option Res:=(compsN P st rs).map toRes
def γoutN (γ:Nat→Option Nat)(L:List (Nat×Nat)):Nat→Option Nat:=fun b=>match γ b with
 |some n=>(L.find? (fun p=>p.2==n)).map (·.1)
 |none=>none
theorem rlsN_get:∀{ls:List PL} {xs:List RL} (_:rlsN st ls=some xs),xs.length=ls.length∧∀(k:Nat) (x:RL),xs[k]?=some x→∃l,ls[k]?=some l∧rlN st l=some x
 |[],xs,h=>by
  simp only [rlsN,Option.some.injEq]at h
  subst h
  exact⟨rfl,fun k x hk=>by simp at hk⟩
 |l::r,xs,h=>by
  unfold rlsN at h
  split at h
  ·rename_i x y h1 h2
   cases h
   obtain⟨h3,h4⟩:=rlsN_get h2
   refine⟨by simp [h3],fun k z hk=>?_⟩
   cases k with
   |zero=>
    simp only [List.getElem?_cons_zero,Option.some.injEq]at hk
    subst hk
    exact⟨l,rfl,h1⟩
   |succ k=>
    obtain⟨l',h5,h6⟩:=h4 k z (by simpa using hk)
    exact⟨l',by simpa using h5,h6⟩
  ·cases h
theorem rlN_own {l:PL}{fl:Fl}{e s:Nat}{rows:List (List Leaf)}(h:rlN st l=some (.own fl e s rows)):∃n,l=.all n∧getB st n=some (.arr fl e s rows):=by
 unfold rlN at h
 split at h
 ·cases h
 ·cases h
 ·cases h
 ·rename_i n
  split at h
  ·rename_i hbx
   cases h
   exact⟨n,rfl,hbx⟩
  ·cases h
 ·cases h
theorem compsN_own {fl:Fl}{e s:Nat}{rows:List (List Leaf)}:∀{rs:List ResultVar} {vs:List (Bool×List RL)} (_:compsN P st rs=some vs) (j:Nat) {i k:Nat} {g:Bool} {ls:List RL} (_:vs[i]?=some (g,ls)) (_:ls[k]?=some (.own fl e s rows)),∃n,(64*(j+i)+k,n)∈ownC P st j rs∧getB st n=some (.arr fl e s rows)
 |[],vs,h,j,i,k,g,ls,h1,h2=>by
  simp only [compsN,Option.some.injEq]at h
  subst h
  simp at h1
 |x::r,vs,h,j,i,k,g,ls,h1,h2=>by
  unfold compsN at h
  split at h
  ·rename_i p q e1 e2
   cases h
   cases i with
   |zero=>
    simp only [List.getElem?_cons_zero,Option.some.injEq]at h1
    subst h1
    obtain⟨v,hv,hco⟩:=Option.bind_eq_some_iff.1 e1
    cases v with
    |tup _=>cases hco
    |comp g' ls'=>
     obtain⟨xs,hx,he⟩:=oms hco
     injection he with e3 e4
     subst e3;subst e4
     obtain⟨_,hxg⟩:=rlsN_get hx
     obtain⟨l,h3,h4⟩:=hxg k _ h2
     obtain⟨n,rfl,h5⟩:=rlN_own h4
     exact⟨n,ownC_mem (k:=0) (j:=j) rfl hv (ownL_mem h3),h5⟩
   |succ i=>
    obtain⟨n,h3,h4⟩:=compsN_own e2 (j+1) (by simpa using h1) h2
    refine⟨n,?_,h4⟩
    unfold ownC
    rw [show j+(i+1)=j+1+i by omega]
    exact List.mem_append_right _ h3
  ·cases h
theorem compsN_at {fl:Fl}{e s:Nat}{rows:List (List Leaf)}{rs:List ResultVar}{vs:List (Bool×List RL)}(h:compsN P st rs=some vs){k:Nat}(j:Nat)(hat:isAt (toRes vs) k (.own fl e s rows)):∃n,(64*j+k,n)∈ownC P st j rs∧getB st n=some (.arr fl e s rows):=by
 unfold toRes at hat
 split at hat
 ·rename_i g ls
  obtain⟨n,h1,h2⟩:=compsN_own h j (i:=0) rfl hat
  exact⟨n,by simpa using h1,h2⟩
 ·obtain⟨i,k',g,ls,h1,h2,rfl⟩:=hat
  obtain⟨n,h3,h4⟩:=compsN_own h j h1 h2
  refine⟨n,?_,h4⟩
  rw [show 64*j+(64*i+k')=64*(j+i)+k' by omega]
  exact h3
theorem retN_core (h:Inv γ0 w0 N st a w η γ){fn:Func}{r:Res}(hr:resN P st fn.results.toList=some r){L:List (Nat×Nat)}(hLd:ownC P st 0 fn.results.toList=L)(hL:apart L=true){B:Nat}{γr:Nat→Option Nat}(hk:∀b,γ b=none→γr b=none)(hg:∀i n,(i,n)∈L→∀b,γ b=some n→B≤b∧γr b=some i):
  ∃u,(results fn a.tmps).run P w=.ok u w∧RepR B w γr (hout η L) r u:=by
 obtain⟨vs,hvs,rfl⟩:=oms hr
 have hkp:Kp w w γ γr:=⟨Nat.le_refl _,fun b _ hb=>⟨hk b hb,rfl⟩⟩
 have leaf:∀{l:PL} {x:RL} {u:Value} {i:Nat} (_:RepP (getB st) η γ w l u) (_:rlN st l=some x) (_:∀n,l=.all n→(i,n)∈L),RepRL B w γr (hout η L) i x u:=by
  intro l x u i hl hx hm
  unfold rlN at hx
  split at hx
  ·cases hx;obtain⟨rfl,h1⟩:=hl;exact .sc h1
  ·cases hx;cases hl;exact .emp (Nat.zero_le _)
  ·cases hx;exact RepL.kp hkp hl
  ·rename_i n
   split at hx
   ·rename_i fl e s rows hbx
    cases hx
    have hmem:=hm n rfl
    obtain⟨f1,f2⟩:=find_own hL hmem
    obtain⟨rfl,_⟩:=hl
    obtain⟨xs,h1,h2,h3,h4,h5⟩:=h.blks n _ hbx
    have hgn:=hg _ _ hmem
    refine⟨by simp only [hout,f2],xs,h1,?_,h3,fun b hb=>hgn b (h4 b hb),h5.kp fun b hg=>hid_of (hgn b hg).1 (hgn b hg).2⟩
    by_cases hf:fl.nst=true
    ·exact h2.kp (Kp.vwO hf hgn)
    ·have hf:fl.nst=false:=by simpa using hf
     rw [vw_of hf]at h2
     rw [vwR_of hf]
     exact h2.kp hkp
   ·cases hx
  ·cases hx
 have key:∀(rs:List ResultVar) (j:Nat) (vs:List (Bool×List RL)),compsN P st rs=some vs→(∀p,p∈ownC P st j rs→p∈L)→
   ∃us:List Value,us.length=rs.length∧us.length=vs.length∧(∀(k:Nat) (x:ResultVar),rs[k]?=some x→∃u,us[k]?=some u∧(rsem a x).run P w=Result.ok u w)∧
   ∀(k:Nat) (g:Bool) (ls:List RL),vs[k]?=some (g,ls)→∃u,us[k]?=some u∧RepRC B w γr (hout η L) (64*(j+k)) g ls u:=by
  intro rs
  induction rs with
  |nil=>
   intro j vs hv _
   simp only [compsN,Option.some.injEq]at hv
   subst hv
   exact⟨[],rfl,rfl,fun k x hk=>by simp at hk,fun k g ls hk=>by simp at hk⟩
  |cons x r ih=>
   intro j vs hv hsub
   unfold compsN at hv
   split at hv
   ·rename_i p q h1 h2
    cases hv
    obtain⟨g0,ls0⟩:=p
    obtain⟨v,hv,hco⟩:=Option.bind_eq_some_iff.1 h1
    obtain⟨u,hu1,hu2⟩:=resV_sound h hv
    obtain⟨us,l1,l2,l3,l4⟩:=ih (j+1) q h2 (fun p hp=>hsub p (by unfold ownC;exact List.mem_append_right _ hp))
    have hcomp:RepRC B w γr (hout η L) (64*j) g0 ls0 u:=by
     cases v with
     |tup _=>cases hco
     |comp g ls=>
      obtain⟨xs,hx,he⟩:=oms hco
      injection he with e1 e2
      subst e1;subst e2
      obtain⟨hxl,hxg⟩:=rlsN_get hx
      have hmem:∀(k n:Nat),ls[k]?=some (.all n)→(64*j+k,n)∈L:=fun k n hk=>hsub _ (ownC_mem (k:=0) (j:=j) rfl hv (ownL_mem hk))
      cases g with
      |true=>
       obtain⟨cs,rfl,c1,c2⟩:=hu2
       refine⟨cs,rfl,by rw [c1,hxl],fun k l hk=>?_⟩
       obtain⟨pl,p1,p2⟩:=hxg k l hk
       obtain⟨c,c3,c4⟩:=c2 k pl p1
       exact⟨c,c3,leaf c4 p2 (fun n e=>hmem k n (e▸p1))⟩
      |false=>
       obtain⟨pl,rfl,c4⟩:=hu2
       cases xs with
       |nil=>simp at hxl
       |cons l xr=>
        cases xr with
        |cons _ _=>simp at hxl
        |nil=>
         obtain⟨pl',p1,p2⟩:=hxg 0 l rfl
         simp only [List.getElem?_cons_zero,Option.some.injEq]at p1
         subst p1
         exact⟨l,rfl,leaf c4 p2 (fun n e=>by have:=hmem 0 n (by rw [e];rfl);simpa using this)⟩
    refine⟨u::us,by simp [l1],by simp [l2],fun k y hk=>?_,fun k g ls hk=>?_⟩
    ·cases k with
     |zero=>
      simp only [List.getElem?_cons_zero,Option.some.injEq]at hk
      subst hk
      exact⟨u,rfl,hu1⟩
     |succ k=>
      obtain⟨u',h5,h6⟩:=l3 k y (by simpa using hk)
      exact⟨u',by simpa using h5,h6⟩
    ·cases k with
     |zero=>
      simp only [List.getElem?_cons_zero,Option.some.injEq]at hk
      cases hk
      exact⟨u,rfl,hcomp⟩
     |succ k=>
      obtain⟨u',h5,h6⟩:=l4 k g ls (by simpa using hk)
      rw [show j+1+k=j+(k+1)by omega]at h6
      exact⟨u',by simpa using h5,h6⟩
   ·cases hv
 obtain⟨us,l1,l2,l3,l4⟩:=key fn.results.toList 0 vs hvs (fun p hp=>hLd▸hp)
 have hrun:=results_run us l1 l3
 have hres:(results fn a.tmps).run P w=.ok (if h:us.length=1 then us[0]'(by rw [h];exact Nat.zero_lt_one)else .tuple us.toArray) w:=by
  have hrun':(fn.results.mapM (rsem a)).run P w=Result.ok us.toArray w:=by
   have e:fn.results=fn.results.toList.toArray:=by simp
   rw [e,List.mapM_toArray]
   simp only [Sem.run_map]
   rw [hrun]
   rfl
  have hfx:(fun x=>match x with
   |.tmp t=>(pure (a.tmps.getD t undef):Sem Value)
   |.cell t ty=>do loadVar ty (←asAddr (a.tmps.getD t undef)))=rsem a:=by
   funext x
   cases x<;>rfl
  have hfun:results fn a.tmps=(fn.results.mapM (rsem a)>>=fun vs=>pure (if h:vs.size=1 then vs[0]'(by rw [h];exact Nat.zero_lt_one)else .tuple vs)):=by
   unfold results
   rw [←hfx]
   rfl
  rw [hfun]
  simp only [Sem.run_bind,hrun',Result.andThen_ok,Sem.run_pure,List.size_toArray,List.getElem_toArray]
 refine⟨_,hres,?_⟩
 by_cases h1:us.length=1
 ·rw [dif_pos h1]
  refine(?_:RepR B w γr (hout η L) (toRes vs) _)
  cases vs with
  |nil=>rw [h1]at l2;simp at l2
  |cons p r=>
   cases r with
   |cons _ _=>rw [h1]at l2;simp at l2
   |nil=>
    obtain⟨g,ls⟩:=p
    obtain⟨u,h2,h3⟩:=l4 0 g ls rfl
    have:us[0]'(by omega)=u:=by
     rw [gsE (by omega)]at h2
     cases h2;rfl
    rw [this]
    show RepRC _ _ _ _ 0 g ls u
    simpa using h3
 ·rw [dif_neg h1]
  refine(?_:RepR B w γr (hout η L) (toRes vs) _)
  have htup:toRes vs=.tup vs:=by
   unfold toRes
   split
   ·exact absurd l2 (by simpa using h1)
   ·rfl
  rw [htup]
  exact⟨us,rfl,l2,fun j g ls hj=>by
   obtain⟨u,h2,h3⟩:=l4 j g ls hj
   exact⟨u,h2,by rw [Nat.zero_add]at h3;exact h3⟩⟩
end
end
end Go.Proofs.YtfgkfcfplodaoaaGreatDoor
