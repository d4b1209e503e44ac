/-
  Put together out of 3 texts.
-/
import Derived.Test.YtfgkfcfplodaoaaGreatDoorG11
import Derived.Test.YtfgkfcfplodaoaaGreatDoorG13
set_option linter.unusedSimpArgs false
set_option linter.unusedVariables false
set_option maxRecDepth 100000
namespace Go.Proofs.YtfgkfcfplodaoaaGreatDoor
open Go Go.RowKit
section
def DelBy (P:Program)(F:FuncId){α:Type}(enc:α→List Value)(e s:Nat):Prop:=
 ∀b cap cur (l:List α) (k:Nat) w,k<l.length→GlobOk (own1 b) w→w.heap[b]?=some (.cells cur e (0,0))→l.length≤cap→cap≤maxLen→cur.size=cap*s→cur.toList.take (l.length*s)=(l.map enc).flatten→l.length≤8796093022207→(∀v∈(l.map enc).flatten,v.oneCell'=true)→
  Calls P F #[.slice (some ⟨b,0,none⟩) l.length cap,.int .i64 (k:Int),.int .i64 ((k:Int)+1)] w fun e' w'=>e'=.returned (.slice (some ⟨b,0,none⟩) (l.eraseIdx k).length cap)∧
   ∃cur':Array Value,Below w.heap.size (putO w b (.cells cur' e (0,0))) w'∧cur'.size=cap*s∧cur'.toList.take ((l.eraseIdx k).length*s)=((l.eraseIdx k).map enc).flatten
section
variable {P:Program}{γ0:Nat→Option Nat}{w0:World}{N:Nat}{st:St}{a:Act}{w:World}{η:Nat→Value}{γ:Nat→Option Nat}{Q:Exit→Act→World→Prop}
abbrev initDl {α:Type}(enc:α→List Value)(e s:Nat)(l:List α)(k:Nat):St:=[.slot 0 (one (.all 999)),.blk 999 (.arr .ft e s (rowsF enc l)),.slot 1 (one (.sc (.int .i64 (k:Int)))),.slot 2 (one (.sc (.int .i64 ((k:Int)+1))))]
theorem enterDl {f:FuncId}{fn:Func}{c:Code}{α:Type}{enc:α→List Value}{e s:Nat}{l:List α}{k:Nat}{R':Ending→World→Prop}{b cap:Nat}{cur:Array Value}
  (hf:P.funcs[f]?=some fn) (hbd:fn.body=some c) (hN:fn.ntmps=N) (h2:3≤N) (hk:∀x,(enc x).length=s) (hgl:GlobOk (own1 b) w)
  (hh:w.heap[b]?=some (.cells cur e (0,0))) (hlc:l.length≤cap) (hcap:cap≤maxLen) (hsz:cur.size=cap*s) (htk:cur.toList.take (l.length*s)=(l.map enc).flatten) (hone:∀v∈(l.map enc).flatten,v.oneCell'=true)
  (h:W P (own1 b) w N (initDl enc e s l k) c (bodyPost P fn R')):Calls P f #[.slice (some ⟨b,0,none⟩) l.length cap,.int .i64 (k:Int),.int .i64 ((k:Int)+1)] w R':=by
 refine calls_of_wp hf hbd (h _ _ ⟨fun _=>.slice (some ⟨b,0,none⟩) l.length cap,own1 b,?_⟩)
 have hget:∀j,2<j→getS (initDl enc e s l k) j=one .dead:=fun j hj=>by
  have h1:¬0=j:=by omega
  have h3:¬1=j:=by omega
  have h4:¬2=j:=by omega
  simp only [initDl,getS,if_neg h1,if_neg h3,if_neg h4]
 have hty:∀j:Nat,(#[Value.slice (some ⟨b,0,none⟩) l.length cap,.int .i64 (k:Int),.int .i64 ((k:Int)+1)]++Array.replicate (fn.ntmps-3) undef).getD j undef=(if j=0 then .slice (some ⟨b,0,none⟩) l.length cap else if j=1 then .int .i64 (k:Int)else if j=2 then .int .i64 ((k:Int)+1)else undef):=fun j=>by
  rw [Array.getD_eq_getD_getElem?]
  rcases j with _|_|_|j
  ·rw [Array.getElem?_append_left (by simp)];rfl
  ·rw [Array.getElem?_append_left (by simp)];rfl
  ·rw [Array.getElem?_append_left (by simp)];rfl
  ·rw [Array.getElem?_append_right (by simp)]
   simp only [Array.getElem?_replicate]
   split<;>simp
 refine {slots:=fun j=>?_,blks:=fun n b' hb'=>?_,live:=fun j n hk=>?_,low:=fun j _ hk=>⟨hk,rfl⟩,os:=rfl,tape:=rfl,output:=rfl,size:=Nat.le_refl _,defers:=rfl,width:=?_,glob:=hgl,pin:=fun _ j ls hk hbx=>(by simp [getB]at hbx),pinA:=fun _ fl1 e1 s1 rows1 hbx=>?_}
 ·show RepV _ _ _ _ _ ((#[Value.slice (some ⟨b,0,none⟩) l.length cap,.int .i64 (k:Int),.int .i64 ((k:Int)+1)]++Array.replicate (fn.ntmps-3) undef).getD j undef)
  rw [hty]
  by_cases e0:j=0
  ·subst e0
   exact RepV.one_iff.2 ⟨rfl,.ft,e,s,rowsF enc l,by simp [getB]⟩
  ·by_cases e1:j=1
   ·subst e1
    exact RepV.one_iff.2 ⟨rfl,rfl⟩
   ·by_cases e2:j=2
    ·subst e2
     exact RepV.one_iff.2 ⟨rfl,rfl⟩
    ·rw [hget j (by omega)]
     exact RepV.one_iff.2 trivial
 ·simp only [getB]at hb'
  split at hb'
  ·rename_i e9
   cases hb'
   subst e9
   refine⟨(l.map enc).flatten,⟨by rw [rowsF_len,flat_lenK hk],.inr ⟨b,cap,cur,by rw [rowsF_len],Nat.zero_le _,hh,by rw [rowsF_len];exact hlc,hcap,hsz,by rw [rowsF_len];exact htk⟩⟩,by rw [rowsF_flatten,vw_of rfl];exact scs_rep hone,fun row hr=>rowsF_wid hk _ row hr,fun b2 hb2=>?_,fun _ row hr x hx=>?_,fun e'=>(by cases e'),fun _ _ e'=>(by cases e')⟩
   ·cases hb2
    exact own1_same _
   ·unfold rowsF at hr
    obtain⟨y,_,rfl⟩:=List.mem_map.1 hr
    obtain⟨v,_,rfl⟩:=List.mem_map.1 hx
    exact⟨v,rfl⟩
  ·cases hb'
 ·have hkb:=own1_some hk
  subst hkb
  rw [own1_same]at hk
  cases hk
  exact⟨heap_lt hh,.inl rfl,by simp [getB]⟩
 ·simp
  omega
 ·have hbx:some (Blk.arr .ft e s (rowsF enc l))=some (.arr fl1 e1 s1 rows1):=hbx
  cases hbx
  exact .inr ⟨b,cap,by rw [rowsF_len],own1_same _,by simp only [szB,hh,hsz]⟩
theorem WL.opDel {ops:Array Oper}{r:List Oper}{d F n:Nat}{x0 x1 x2:Operand}{ts:Array TypeId}{ty:TypeId}{pos:String}{after:Array Edge}{α:Type}{enc:α→List Value}{s:Nat}{fl:Fl}{e:Nat}
  (hf:Has P F) (hs:DelBy P F enc e s) (hk:∀x,(enc x).length=s) (l:List α) (k:Nat) (hkl:k<l.length) (hl62:l.length≤8796093022207) (hN:d<N) (hn9:n≠999)
  (hp:ev st x0=one (.all n)) (h1:ev st x1=one (.sc (.int .i64 (k:Int)))) (h2:ev st x2=one (.sc (.int .i64 ((k:Int)+1)))) (hb:getB st n=some (.arr fl e s (rowsF enc l)))
  (h:WL P γ0 w0 N ops r (.slot d (one (.all n))::.blk n (.arr .ft e s (rowsF enc (l.eraseIdx k)))::.kill n::st) Q):
  WL P γ0 w0 N ops (⟨some d,.call ⟨.value (.func F), #[x0,x1,x2],ts⟩,ty,pos,after,none⟩::r) st Q:=fun a w hR=>by
 refine wpList_plain rfl fun K hK=>?_
 obtain⟨η,γ,hI⟩:=hR
 have h0:=ev_sound hI x0
 have h1':=ev_sound hI x1
 have h2':=ev_sound hI x2
 rw [hp]at h0
 rw [h1]at h1'
 rw [h2]at h2'
 obtain⟨h1',-⟩:=RepV.one_iff.1 h1'
 obtain⟨h2',-⟩:=RepV.one_iff.1 h2'
 obtain⟨h0,-⟩:=RepV.one_iff.1 h0
 have hrun:=enter_of (P:=P) hf (a:=a) (w:=w) (args:=[x0,x1,x2]) (ts:=ts) (dst:=some d) (ty:=ty) (pos:=pos) (after:=after) (g:=none)
 unfold Oper.wp
 rw [hrun]
 show Calls P F ([x0,x1,x2].map a.eval).toArray w _
 simp only [List.map_cons,List.map_nil,h1',h2',h0]
 obtain⟨xs,⟨ho1,ho2⟩,hr,hw,hgo,hff⟩:=hI.blks n _ hb
 rw [rowsF_flatten]at hr
 obtain⟨rfl,hone⟩:=scs_eq hr
 rw [rowsF_len]at ho1 ho2
 have hvn:∀b,(η n).ownBlock=some b→γ b=some n:=hgo
 have hflat:∀l':List α,Fl.ft=.ft→∀row∈rowsF enc l',∀x∈row,∃v,x=Leaf.sc v:=fun l' _ row hr x hx=>by
  unfold rowsF at hr
  obtain⟨y,_,rfl⟩:=List.mem_map.1 hr
  obtain⟨v,_,rfl⟩:=List.mem_map.1 hx
  exact⟨v,rfl⟩
 rcases ho2 with⟨_,hz⟩|⟨b,cap,cur,ho,q0,q1,q2,q3,q4,q5⟩
 ·omega
 have hgb:γ b=some n:=hgo b (by rw [ho];rfl)
 rw [ho]
 have hglob:GlobOk (own1 b) w:=fun g vs hg=>by
  obtain⟨m1,m2,m3⟩:=hI.globw g vs hg
  refine⟨own1_other (fun e=>?_),m2,m3⟩
  obtain⟨p1,p2,_⟩:=hI.glob g vs hg
  have:=(hI.low g p2 p1).1
  rw [e,hgb]at this
  cases this
 refine(hs b cap cur l k w hkl hglob q1 q2 q3 q4 q5 hl62 hone).mono fun e' w' ⟨he,cur',hbel,c1,c2⟩=>?_
 subst he
 have hfl:(l.eraseIdx k).length≤l.length:=List.length_eraseIdx_le ..
 have hsubl:∀x∈l.eraseIdx k,x∈l:=fun x hx=>List.mem_of_mem_eraseIdx hx
 generalize l.eraseIdx k=l' at*
 have hone':∀v∈(l'.map enc).flatten,v.oneCell'=true:=fun v hv=>by
  obtain⟨row,hr1,hr2⟩:=List.mem_flatten.1 hv
  obtain⟨x,hx1,rfl⟩:=List.mem_map.1 hr1
  exact hone v (List.mem_flatten.2 ⟨_,List.mem_map.2 ⟨x,hsubl x hx1,rfl⟩,hr2⟩)
 have hlt:=heap_lt q1
 have hpsz:w.heap.size≤w'.heap.size:=by have:=hbel.size;rw [putO_size]at this;exact this
 have h2:=hI.grow n d hN (fun _=>hn9) (fl:=.ft) (e:=e) (s:=s) (rows:=rowsF enc l') (v:=η n) (v':=.slice (some ⟨b,0,none⟩) l'.length cap) (w':=w') (xs:=(l'.map enc).flatten) hvn
  ⟨by rw [rowsF_len,flat_lenK hk],.inr ⟨b,cap,cur',by rw [rowsF_len],q0,by rw [hbel.block b hlt,putO_same _ hlt],by rw [rowsF_len];omega,q3,c1,by rw [rowsF_len];exact c2⟩⟩
  ⟨hbel.os,hbel.tape,hbel.output,hpsz,fun k hk hkb=>by
   rw [hbel.block k hk]
   exact putO_other _ fun e0=>hkb (by rw [ho,e0];rfl)⟩
  (.inl (by rw [ho];rfl)) (fun _=>by rw [rowsF_flatten];exact scs_rep hone') (fun row hr=>rowsF_wid hk _ row hr) rfl (hflat l')
 exact hK _ _ (h _ _ h2)
theorem run_bounds3 (len cap:Nat){k1 k2 k3:IntKind}(l h m:Nat)(h1:l≤h)(h2:h≤m)(h3:m≤cap):
  (Instr.sliceBounds true len cap (some (.int k1 (l:Int))) (some (.int k2 (h:Int))) (some (.int k3 (m:Int)))).run P w=.ok (l,h,m) w:=by
 have e0:∀c,(Instr.sliceBound (.int k3 (m:Int)) cap c).run P w=.ok m w:=fun c=>by rw [run_sliceBound_if w,if_pos (by omega)];simp
 have e1:∀c,(Instr.sliceBound (.int k1 (l:Int)) h c).run P w=.ok l w:=fun c=>by rw [run_sliceBound_if w,if_pos (by omega)];simp
 have e2:∀c,(Instr.sliceBound (.int k2 (h:Int)) m c).run P w=.ok h w:=fun c=>by rw [run_sliceBound_if w,if_pos (by omega)];simp
 simp [Instr.sliceBounds,e0,e1,e2]
theorem WL.opSl3 {ops:Array Oper}{r:List Oper}{d n t e s e' s':Nat}{x0 x1 x2 x3:Operand}{ty:TypeId}{pos:String}{after:Array Edge}{fl:Fl}{rows:List (List Leaf)}{l h m:Nat}
  (he:elT P t=some e) (hs:szT P e=some s) (hp:ev st x0=one (.all n)) (hb:getB st n=some (.arr fl e' s' rows)) (h1:ev st x1=one (.sc (.int .i64 (l:Int)))) (h2:ev st x2=one (.sc (.int .i64 (h:Int)))) (h3:ev st x3=one (.sc (.int .i64 (m:Int))))
  (hlh:l≤h) (hhm:h≤m) (hml:m≤rows.length) (hN:d<N) (hk:WL P γ0 w0 N ops r (.slot d (one .dead)::st) Q):
  WL P γ0 w0 N ops (⟨some d,.slice t x0 (some x1) (some x2) (some x3),ty,pos,after,none⟩::r) st Q:=fun a w hR=>by
 refine wpList_plain rfl fun K hK=>?_
 obtain⟨η,γ,hI⟩:=hR
 have h0:=ev_sound hI x0
 have h1':=ev_sound hI x1
 have h2':=ev_sound hI x2
 have h3':=ev_sound hI x3
 rw [hp]at h0
 rw [h1]at h1'
 rw [h2]at h2'
 rw [h3]at h3'
 obtain⟨h1',-⟩:=RepV.one_iff.1 h1'
 obtain⟨h2',-⟩:=RepV.one_iff.1 h2'
 obtain⟨h3',-⟩:=RepV.one_iff.1 h3'
 obtain⟨h0,-⟩:=RepV.one_iff.1 h0
 obtain⟨xs,⟨ho1,ho2⟩,-⟩:=hI.blks n _ hb
 have hlc:∃A cap,η n=.slice A rows.length cap∧rows.length≤cap:=by
  rcases ho2 with⟨ho,hz⟩|⟨b,cap,cur,ho,_,_,q2,_⟩
  ·exact⟨none,0,by rw [ho,hz],by omega⟩
  ·exact⟨_,cap,ho,q2⟩
 obtain⟨A,cap,hA,hcap⟩:=hlc
 have hu:=elT_sound he
 have hbd:=run_bounds3 (P:=P) (w:=w) rows.length cap (k1:=.i64) (k2:=.i64) (k3:=.i64) l h m hlh hhm (by omega)
 have hrun:(Instr.sliceAt t (a.eval x0) (some (a.eval x1)) (some (a.eval x2)) (some (a.eval x3))).run P w=.ok (.slice (if m=l then A else A.map (·.add (l*s))) (h-l) (m-l)) w:=by
  rw [h0,h1',h2',h3',hA]
  simp [Instr.sliceAt,run_underlying hu,Instr.slice,hbd,run_size hs]
 refine wp_value (u:=.slice (if m=l then A else A.map (·.add (l*s))) (h-l) (m-l)) (w':=w) (by
  unfold execOp
  simp [hrun]) (hK _ _ (hk _ _ ⟨η,γ,hI.lose d _ hN⟩))
end
end
section
theorem run_mk0 {P:Program}(t e:TypeId)(z:Value)(zs:List Value)(s bytes:Nat)(ht:P.underlying t=some (.slice e))(hinfo:(P.info? e).map (fun i=>(i.zero,i.size,i.bytes))=some (some z,s,bytes))
  (hz1:z.cells=zs.toArray) (hs:zs.length=s) (kl kc:IntKind) (n:Nat) (hbytes:bytes*n≤281474976710656) (h63:n≤9223372036854775807) (w:World):
  (Instr.makeSlice t (.int kl 0) (.int kc (n:Int))).run P w=.ok (.slice (some ⟨w.heap.size,0,none⟩) 0 n) (w.alloc (.cells (zeros zs n).toArray e)):=by
 obtain⟨i,hi,hzz⟩:=oms hinfo
 simp only [Prod.mk.injEq]at hzz
 obtain⟨hz,hs',hb⟩:=hzz
 have hb':(i.bytes:Int)*(n:Int)≤281474976710656:=by
  have h:((i.bytes*n:Nat):Int)≤281474976710656:=by rw [hb];omega
  rwa [Int.natCast_mul]at h
 have hr:=run_make (P:=P) t e i z ht hi hz kl kc 0 n (by omega) (by omega) hb' (by omega) (w:=w)
 simp only [Int.toNat_natCast,Int.toNat_zero,hz1,hs']at hr
 rw [←hs,madeCells_eq]at hr
 exact hr
section
variable {P:Program}{γ0:Nat→Option Nat}{w0:World}{N:Nat}{st:St}{Q:Exit→Act→World→Prop}
theorem WL.opMk0 {ops:Array Oper}{r:List Oper}{d t e s by_ m:Nat}{z:Value}{x0 x1:Operand}{ty:TypeId}{pos:String}{after:Array Edge}
  (hel:elT P t=some e) (hs:szT P e=some s) (hb:byT P e=some by_) (hz:zeroT P e=some z) (hzs:z.cells.size=s) (hbm:by_*m≤140737488355328) (hm:m≤140737488355328)
  (h0:ev st x0=one (.sc (.int .i64 0))) (h1:ev st x1=one (.sc (.int .i64 (m:Int)))) (hN:d<N)
  (hk:WL P γ0 w0 N ops r (.slot d (one (.all d))::.blk d (.arr .ft e s [])::clr d st) Q):
  WL P γ0 w0 N ops (⟨some d,.makeSlice t x0 x1,ty,pos,after,none⟩::r) st Q:=fun a w hR=>by
 refine wpList_plain rfl fun K hK=>?_
 obtain⟨η,γ,h⟩:=hR
 have e0:=ev_sound h x0
 have e1:=ev_sound h x1
 rw [h0]at e0
 rw [h1]at e1
 obtain⟨e0,-⟩:=rep_sc e0
 obtain⟨e1,-⟩:=rep_sc e1
 obtain⟨γ1,h1⟩:=h.clr d
 obtain⟨i,hi,hz⟩:=Option.bind_eq_some_iff.1 hz
 obtain⟨i',hi',hsz⟩:=oms hs
 rw [hi]at hi'
 cases hi'
 obtain⟨i',hi',hbz⟩:=oms hb
 rw [hi]at hi'
 cases hi'
 have hzl:z.cells.toList.length=s:=by rw [Array.length_toList];exact hzs
 have hrun:=run_mk0 (P:=P) t e z z.cells.toList s by_ (elT_sound hel) (by rw [hi];simp [hz,hsz,hbz]) (by simp) hzl .i64 .i64 m (by omega) (by omega) w
 have hlz:(zeros z.cells.toList m).length=m*s:=by rw [length_zeros,hzl]
 have hrep:=h1.new d hN (clr_none d st) (.arr .ft e s []) (zeros z.cells.toList m).toArray e (.slice (some ⟨w.heap.size,0,none⟩) 0 m) rfl (fun hn hkp=>by
  refine⟨[],⟨by simp,.inr ⟨w.heap.size,m,(zeros z.cells.toList m).toArray,by rw [upd_same];rfl,Nat.zero_le _,heap_alloc_new w _,Nat.zero_le _,by unfold maxLen;omega,by simp [hlz],by simp⟩⟩,⟨rfl,fun j l hj=>by simp at hj⟩,fun row hr=>by simp at hr,fun b hb=>?_,fun _ row hr=>by simp at hr,fun e=>(by cases e),fun _ _ e=>(by cases e)⟩
  rw [upd_same]at hb
  cases hb
  rw [upd_same])
 rw [←e0,←e1]at hrun
 exact wp_value (by unfold execOp;simp [hrun]) (hK _ _ (hk _ _ ⟨_,_,hrep.put d _ _ hN (RepV.one_iff.2 ⟨(upd_same _ _ _).symm,_,_,_,_,getB_hit _ _ _⟩)⟩))
end
end
section
set_option maxHeartbeats 4000000
def wAt (s:ByteArray)(i:Nat):Nat:=be4 (byteN s (4*i)) (byteN s (4*i+1)) (byteN s (4*i+2)) (byteN s (4*i+3))
theorem wAt_lt (s:ByteArray)(i:Nat):wAt s i<4294967296:=be4_lt (byteN_lt _ _) (byteN_lt _ _) (byteN_lt _ _) (byteN_lt _ _)
def sig0 (a:Nat):Nat:=rotr a 7^^^rotr a 18^^^a/2^3
def sig1 (a:Nat):Nat:=rotr a 17^^^rotr a 19^^^a/2^10
theorem xor3_lt {a b c:Nat}(ha:a<4294967296)(hb:b<4294967296)(hc:c<4294967296):a^^^b^^^c<4294967296:=by
 have h1:=Nat.xor_lt_two_pow (n:=32) (x:=a) (y:=b) (by omega) (by omega)
 have h2:=Nat.xor_lt_two_pow (n:=32) (y:=c) h1 (by omega)
 omega
theorem sig0_lt {a:Nat}(h:a<4294967296):sig0 a<4294967296:=xor3_lt (rotr_lt _ _) (rotr_lt _ _) (by omega)
theorem sig1_lt {a:Nat}(h:a<4294967296):sig1 a<4294967296:=xor3_lt (rotr_lt _ _) (rotr_lt _ _) (by omega)
def sch (s:ByteArray):Nat→List Nat
 |0=>[]
 |k+1=>sch s k++[if k<16 then wAt s k else((sch s k).getD (k-16) 0+sig0 ((sch s k).getD (k-15) 0)+(sch s k).getD (k-7) 0+sig1 ((sch s k).getD (k-2) 0))%4294967296]
theorem sch_len (s:ByteArray):∀k,(sch s k).length=k
 |0=>rfl
 |k+1=>by simp [sch,sch_len s k]
theorem sch_lt (s:ByteArray):∀k x,x∈sch s k→x<4294967296
 |0,x,h=>by cases h
 |k+1,x,h=>by
  unfold sch at h
  rcases List.mem_append.1 h with h|h
  ·exact sch_lt s k x h
  ·rw [List.mem_singleton.1 h]
   split
   ·exact wAt_lt _ _
   ·exact Nat.mod_lt _ (by omega)
theorem schD_lt (s:ByteArray)(k j:Nat):(sch s k).getD j 0<4294967296:=by
 by_cases h:j<(sch s k).length
 ·rw [List.getD_eq_getElem?_getD,gsE h]
  exact sch_lt s k _ (List.getElem_mem h)
 ·rw [List.getD_eq_getElem?_getD,List.getElem?_eq_none (by omega)]
  simp
def mem (s:ByteArray)(k:Nat):List Nat:=sch s k++List.replicate (64-k) 0
theorem mem_len (s:ByteArray){k:Nat}(h:k≤64):(mem s k).length=64:=by simp [mem,sch_len];omega
theorem mem_get (s:ByteArray){k j:Nat}(h:j<k):(mem s k)[j]?=some ((sch s k).getD j 0):=by
 unfold mem
 have hl:j<(sch s k).length:=by rw [sch_len];exact h
 rw [List.getElem?_append_left hl,List.getD_eq_getElem?_getD,gsE hl]
 rfl
theorem mem_set (s:ByteArray){k v:Nat}(h:k<64)(hv:sch s (k+1)=sch s k++[v]):(mem s k).set k v=mem s (k+1):=by
 unfold mem
 have hr:64-k=(64-(k+1))+1:=by omega
 rw [List.set_append_right _ _ (by rw [sch_len];exact Nat.le_refl _),sch_len,Nat.sub_self,hr,List.replicate_succ,List.set_cons_zero,hv,List.append_assoc]
 rfl
theorem mem_zero (s:ByteArray):mem s 0=List.replicate 64 0:=by simp [mem,sch]
abbrev pU (n:Nat):PL:=.sc (.int .u32 (n:Int))
theorem boxU_set (xs:List Nat){i:Nat}(h:i<xs.length)(v:Nat):(xs.map pU).take i++[pU v]++(xs.map pU).drop (i+1)=(xs.set i v).map pU:=by
 rw [List.map_set,List.set_eq_take_append_cons_drop,if_pos (by simpa using h),List.append_assoc]
 rfl
theorem boxU_get {xs:List Nat}{i v:Nat}(h:xs[i]?=some v):(xs.map pU)[i]?=some (pU v):=by rw [List.getElem?_map,h];rfl
theorem lsNms_pU (xs:List Nat):lsNms (xs.map pU)=[]:=by
 induction xs with
 |nil=>rfl
 |cons x r ih=>show PL.nms (pU x)++lsNms (r.map pU)=[];rw [ih];rfl
theorem kill_pU (n:Nat)(xs:List Nat):List.map (PL.kill n) (List.map pU xs)=List.map pU xs:=by
 rw [List.map_map]
 rfl
structure W8 where
 (a b c d e f g h:Nat)
def W8.ok (v:W8):Prop:=(v.a<4294967296∧v.b<4294967296∧v.c<4294967296∧v.d<4294967296)∧v.e<4294967296∧v.f<4294967296∧v.g<4294967296∧v.h<4294967296
abbrev W8.pl (v:W8):List PL:=[pU v.a,pU v.b,pU v.c,pU v.d,pU v.e,pU v.f,pU v.g,pU v.h]
def big1 (e:Nat):Nat:=rotr e 6^^^rotr e 11^^^rotr e 25
def big0 (a:Nat):Nat:=rotr a 2^^^rotr a 13^^^rotr a 22
def chs (e f g:Nat):Nat:=(e&&&f)^^^((4294967295^^^e)&&&g)
def maj (a b c:Nat):Nat:=(a&&&b)^^^(a&&&c)^^^(b&&&c)
def rnd (v:W8)(kw:Nat):W8:=
 {a:=(v.h+big1 v.e+chs v.e v.f v.g+kw+(big0 v.a+maj v.a v.b v.c))%4294967296,b:=v.a,c:=v.b,d:=v.c,
  e:=(v.d+(v.h+big1 v.e+chs v.e v.f v.g+kw))%4294967296,f:=v.e,g:=v.f,h:=v.g}
def shaK (k:Nat):Nat:=shaW.getD k 0
def rnds (s:ByteArray)(h:W8):Nat→W8
 |0=>h
 |k+1=>rnd (rnds s h k) (shaK k+(sch s 64).getD k 0)
theorem rnds_ok (s:ByteArray){h:W8}(hh:h.ok):∀k,(rnds s h k).ok
 |0=>hh
 |k+1=>by
  obtain⟨⟨h1,h2,h3,h4⟩,h5,h6,h7,h8⟩:=rnds_ok s hh k
  exact⟨⟨Nat.mod_lt _ (by omega),h1,h2,h3⟩,Nat.mod_lt _ (by omega),h5,h6,h7⟩
def addW (h v:W8):W8:=⟨(h.a+v.a)%4294967296,(h.b+v.b)%4294967296,(h.c+v.c)%4294967296,(h.d+v.d)%4294967296,(h.e+v.e)%4294967296,(h.f+v.f)%4294967296,(h.g+v.g)%4294967296,(h.h+v.h)%4294967296⟩
def block (h:W8)(s:ByteArray):W8:=addW h (rnds s h 64)
def W8.lst (v:W8):List Nat:=[v.a,v.b,v.c,v.d,v.e,v.f,v.g,v.h]
def mixL (h v:W8)(k:Nat):List Nat:=(List.range 8).map fun i=>if i<k then(h.lst.getD i 0+v.lst.getD i 0)%4294967296 else h.lst.getD i 0
theorem mixL_len (h v:W8)(k:Nat):(mixL h v k).length=8:=by simp [mixL]
theorem mixL_all (h v:W8):mixL h v 8=(addW h v).lst:=rfl
theorem mixL_get (h v:W8){k:Nat}(hk:k<8):(mixL h v k)[k]?=some (h.lst.getD k 0):=by simp [mixL,hk]
theorem W8.lst_get (v:W8){k:Nat}(hk:k<8):v.lst[k]?=some (v.lst.getD k 0):=by
 have:k<v.lst.length:=hk
 simp [List.getD_eq_getElem?_getD,gsE this]
theorem mixL_set (h v:W8){k:Nat}(hk:k<8):(mixL h v k).set k ((h.lst.getD k 0+v.lst.getD k 0)%4294967296)=mixL h v (k+1):=by
 refine List.ext_getElem (by simp [mixL]) fun i h1 h2=>?_
 simp only [mixL,List.getElem_set,List.getElem_map,List.getElem_range]
 by_cases e:k=i
 ·subst e;simp
 ·rw [if_neg e]
  by_cases hl:i<k
  ·rw [if_pos hl,if_pos (by omega)]
  ·rw [if_neg hl,if_neg (by omega)]
theorem W8.lst_lt {v:W8}(h:v.ok)(k:Nat):v.lst.getD k 0<4294967296:=by
 obtain⟨⟨h1,h2,h3,h4⟩,h5,h6,h7,h8⟩:=h
 match k with
 |0=>exact h1
 |1=>exact h2
 |2=>exact h3
 |3=>exact h4
 |4=>exact h5
 |5=>exact h6
 |6=>exact h7
 |7=>exact h8
 |k+8=>exact(by omega:(0:Nat)<4294967296)
theorem addW_ok (h v:W8):(addW h v).ok:=⟨⟨Nat.mod_lt _ (by omega),Nat.mod_lt _ (by omega),Nat.mod_lt _ (by omega),Nat.mod_lt _ (by omega)⟩,Nat.mod_lt _ (by omega),Nat.mod_lt _ (by omega),Nat.mod_lt _ (by omega),Nat.mod_lt _ (by omega)⟩
theorem sch_lo (s:ByteArray){k:Nat}(h:k<16):sch s (k+1)=sch s k++[wAt s k]:=by rw [sch,if_pos h]
theorem sch_hi (s:ByteArray){k:Nat}(h:¬k<16):sch s (k+1)=sch s k++[((sch s k).getD (k-16) 0+sig0 ((sch s k).getD (k-15) 0)+(sch s k).getD (k-7) 0+sig1 ((sch s k).getD (k-2) 0))%4294967296]:=by rw [sch,if_neg h]
end
end Go.Proofs.YtfgkfcfplodaoaaGreatDoor
