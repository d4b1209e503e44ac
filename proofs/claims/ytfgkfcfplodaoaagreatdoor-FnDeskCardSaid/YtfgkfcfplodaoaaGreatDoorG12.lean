/-
  Put together out of 2 texts.
-/
import Derived.Test.YtfgkfcfplodaoaaGreatDoorG11
import Derived.Shelf.Slices.In.SortNone
import Derived.Lib.RowBridge
import Derived.Shelf.SlSortCmp.NoneTotal
set_option linter.unusedSimpArgs false
set_option linter.unusedVariables false
set_option maxRecDepth 100000
namespace Go.Proofs.YtfgkfcfplodaoaaGreatDoor
section
open Go Go.RowKit Go.Shelf Go.Sort
def SortsBy1 (P:Program)(F:FuncId){α:Type}(enc:α→List Value)(k:Nat)(le:α→α→Prop):Prop:=
 (∀A cap w,Calls P F #[.slice A 0 cap] w fun e w'=>e=.returned (.tuple #[])∧w'=w)∧
 ∀(b off cap:Nat) (cur:Array Value) (ty:TypeId) (l:List α) (w:World),w.heap[b]?=some (.cells cur ty (0,0))→off+l.length*k≤cur.size→(∀j v,((l.map enc).flatten)[j]?=some v→cur[off+j]?=some v)→l.length<4611686018427387904→
  Calls P F #[.slice (some ⟨b,off,none⟩) l.length cap] w fun e w'=>e=.returned (.tuple #[])∧∃l':List α,l'.Perm l∧l'.Pairwise le∧w'.os=w.os∧w'.tape=w.tape∧w'.output=w.output∧w.heap.size≤w'.heap.size∧(∀q,q<w.heap.size→q≠b→w'.heap[q]?=w.heap[q]?)∧
   ∃cur':Array Value,w'.heap[b]?=some (.cells cur' ty (0,0))∧cur'.size=cur.size∧(∀j,j<off∨off+l.length*k≤j→cur'[j]?=cur[j]?)∧∀j v,((l'.map enc).flatten)[j]?=some v→cur'[off+j]?=some v
def CutsBy1 (P:Program)(F:FuncId){α:Type}(enc:α→List Value)(e s:Nat)(cut:List α→List α):Prop:=
 (∀A c w,c≤maxLen→Calls P F #[.slice A 0 c] w fun e' w'=>e'=.returned (.slice A 0 c)∧Below w.heap.size w w')∧
 ∀b cap cur (l:List α) w,w.heap[b]?=some (.cells cur e (0,0))→0<l.length→l.length≤cap→cap≤maxLen→cur.size=cap*s→cur.toList.take (l.length*s)=(l.map enc).flatten→l.length≤8796093022207→(∀v∈(l.map enc).flatten,v.oneCell'=true)→
  Calls P F #[.slice (some ⟨b,0,none⟩) l.length cap] w fun e' w'=>e'=.returned (.slice (some ⟨b,0,none⟩) (cut l).length cap)∧
   ∃cur':Array Value,Below w.heap.size (putO w b (.cells cur' e (0,0))) w'∧cur'.size=cap*s∧cur'.toList.take ((cut l).length*s)=((cut l).map enc).flatten
theorem ints_flat (l:List Int):(l.map cInt).flatten=l.map fun x=>Value.int .i64 x:=by
 induction l with
 |nil=>rfl
 |cons x r ih=>rw [List.map_cons,List.flatten_cons,ih];rfl
theorem holds_ints {w:World}{b off:Nat}{cur:Array Value}{ty:TypeId}{l:List Int}(hh:w.heap[b]?=some (.cells cur ty (0,0)))(hc:∀j v,((l.map cInt).flatten)[j]?=some v→cur[off+j]?=some v):Holds (Value.int .i64) w b off l.toArray:=by
 intro j hj
 have hj':j<l.length:=by simpa using hj
 have h1:=hc j (.int .i64 l[j]) (by rw [ints_flat,List.getElem?_map,gsE hj'];rfl)
 refine⟨?_,by simp [World.frozen?,hh]⟩
 simp only [World.cell?,hh,Option.isSome_none,Bool.false_eq_true,if_false,id,h1]
 simp [hj']
theorem put_row {w:World}{b off:Nat}{cur:Array Value}{ty:TypeId}(n:Nat)(os:Array Obj)(d:Array Int)(hh:w.heap[b]?=some (.cells cur ty (0,0))):
  let w':=grow (putRow (Value.int .i64) (Sort.ahead w n) b off d) os
  w'.os=w.os∧w'.tape=w.tape∧w'.output=w.output∧w.heap.size≤w'.heap.size∧(∀q,q<w.heap.size→q≠b→w'.heap[q]?=w.heap[q]?)∧w'.heap[b]?=some (.cells (putCells (Value.int .i64) off d cur) ty (0,0)):=by
 have hb:=heap_lt hh
 have hsz:(putRow (Value.int .i64) (Sort.ahead w n) b off d).heap.size=w.heap.size:=by simp [putRow,mapBlock,Sort.ahead]
 have hold:∀q,q<w.heap.size→(grow (putRow (Value.int .i64) (Sort.ahead w n) b off d) os).heap[q]?=(putRow (Value.int .i64) (Sort.ahead w n) b off d).heap[q]?:=fun q hq=>by
  simp only [grow]
  exact Array.getElem?_append_left (by rw [hsz];exact hq)
 refine⟨rfl,rfl,rfl,by simp [grow,hsz],fun q hq hne=>?_,?_⟩
 ·rw [hold q hq]
  simp only [putRow,mapBlock]
  rw [Array.getElem?_modify,if_neg (fun e=>hne e.symm)]
  rfl
 ·rw [hold b hb]
  simp only [putRow,mapBlock]
  rw [Array.getElem?_modify,if_pos rfl]
  show Option.map _ w.heap[b]?=_
  rw [hh]
  rfl
theorem putCells_at {d:List Int}{cur:Array Value}{off:Nat}(h:off+d.length≤cur.size){j:Nat}{v:Value}(hv:((d.map cInt).flatten)[j]?=some v):(putCells (Value.int .i64) off d.toArray cur)[off+j]?=some v:=by
 rw [ints_flat,List.getElem?_map]at hv
 obtain⟨x,hx,rfl⟩:=oms hv
 obtain⟨hj,hx⟩:=gsS hx
 simp only [putCells,Array.getElem?_mapIdx]
 rw [Array.getElem?_eq_getElem (by omega),Option.map_some,if_pos (by simp;omega),Nat.add_sub_cancel_left]
 simp [hj,hx]
theorem putCells_out {d:Array Int}{cur:Array Value}{off j:Nat}(h:j<off∨off+d.size≤j):(putCells (Value.int .i64) off d cur)[j]?=cur[j]?:=by
 simp only [putCells,Array.getElem?_mapIdx]
 cases cur[j]? with
 |none=>rfl
 |some x=>rw [Option.map_some,if_neg (by omega)]
theorem putCells_size (d:Array Int)(cur:Array Value)(off:Nat):(putCells (Value.int .i64) off d cur).size=cur.size:=by simp [putCells]
theorem sortsI_of {P:Program}{ρ:Ren}(L:Lays.n189 P ρ):SortsBy1 P (ρ.f 189) cInt 1 (fun x y:Int=>x≤y):=by
 refine⟨fun A cap w=>Any.slices_Sort_int_none L A cap w,fun b off cap cur ty l w hh hoff hcells hlen=>?_⟩
 refine(Any.slices_Sort_int L b off cap l w (holds_ints hh hcells) (heap_lt hh) hlen).mono ?_
 rintro e w' ⟨he,n,os,rfl⟩
 obtain⟨p1,p2,p3,p4,p5,p6⟩:=put_row n os (l.mergeSort fun x y=>decide (x≤y)).toArray hh
 have hl:(l.mergeSort fun x y=>decide (x≤y)).length=l.length:=List.length_mergeSort l
 refine⟨he,_,List.mergeSort_perm l _,?_,p1,p2,p3,p4,p5,_,p6,putCells_size _ _ _,fun j hj=>putCells_out (by simpa [hl]using hj),fun j v hv=>putCells_at (by omega) hv⟩
 have:=List.pairwise_mergeSort (le:=fun x y:Int=>decide (x≤y)) (fun a b c h1 h2=>by simp at h1 h2⊢;omega) (fun a b=>by simp;omega) l
 exact this.imp fun h=>by simpa using h
theorem compact_sub (l:List Int)(x:Int)(h:x∈Lib.compact l):x∈l:=by
 unfold Lib.compact Lib.compactUpTo at h
 obtain⟨i,hi,rfl⟩:=List.mem_map.1 h
 have hi':i<l.length:=by simpa using (List.mem_filter.1 hi).1
 simp [hi']
theorem cutsI_of {P:Program}{ρ:Ren}(L:Lays2.n20 P ρ)(e:Nat):CutsBy1 P (ρ.f 20) cInt e 1 Lib.compact:=by
 refine⟨fun A c w hc=>(Any.slices_Compact_int_empty L A c w).mono fun e' w' ⟨he,hw⟩=>⟨he,hw▸Below.refl _ _⟩,fun b cap cur l w hh h0 hlc hcm hsz ht h62 hone=>?_⟩
 have hcells:∀j v,((l.map cInt).flatten)[j]?=some v→cur[0+j]?=some v:=fun j v hj=>by
  rw [←ht,List.getElem?_take]at hj
  rw [Nat.zero_add]
  split at hj
  ·simpa using hj
  ·cases hj
 have hcl:=Lib.compact_length_le l
 refine(Any.slices_Compact_int L b 0 cap l w (holds_ints hh hcells) (by omega) hlc).mono ?_
 rintro e' w' ⟨he,q,rfl⟩
 obtain⟨p1,p2,p3,p4,p5,p6⟩:=put_row q #[] (Lib.compact l++List.replicate (l.length-(Lib.compact l).length) 0).toArray (off:=0) hh
 rw [grow_empty]at p1 p2 p3 p4 p5 p6
 refine⟨he,putCells (Value.int .i64) 0 (Lib.compact l++List.replicate (l.length-(Lib.compact l).length) 0).toArray cur,⟨?_,?_,?_,?_,?_⟩,by rw [putCells_size];exact hsz,?_⟩
 ·exact p1
 ·exact p2
 ·exact p3
 ·rw [putO_size];exact p4
 ·intro k hk
  by_cases hkb:k=b
  ·subst hkb
   rw [p6,putO_same _ hk]
  ·rw [p5 k hk hkb,putO_other _ hkb]
 ·refine List.ext_getElem? fun j=>?_
  rw [List.getElem?_take]
  have hfl:(((Lib.compact l).map cInt).flatten).length=(Lib.compact l).length:=by rw [ints_flat,List.length_map]
  split
  ·rename_i hj
   have hv:((((Lib.compact l++List.replicate (l.length-(Lib.compact l).length) 0)).map cInt).flatten)[j]?=some (((Lib.compact l).map cInt).flatten)[j]:=by
    rw [List.map_append,List.flatten_append,List.getElem?_append_left (by omega)]
    exact gsE (by omega)
   have h1:=putCells_at (off:=0) (cur:=cur) (by simp;omega) hv
   rw [Nat.zero_add]at h1
   rw [Array.getElem?_toList,h1,gsE (by omega)]
  ·rename_i hj
   rw [List.getElem?_eq_none (by omega)]
section
variable {P:Program}{γ0:Nat→Option Nat}{w0:World}{N:Nat}{st:St}{a:Act}{w:World}{η:Nat→Value}{γ:Nat→Option Nat}{Q:Exit→Act→World→Prop}
theorem WL.opSort1 {ops:Array Oper}{r:List Oper}{d F n m:Nat}{x0:Operand}{ts:Array TypeId}{ty:TypeId}{pos:String}{after:Array Edge}{α:Type}{enc:α→List Value}{s:Nat}{le:α→α→Prop}{e:Nat}
  (hf:Has P F) (hs:SortsBy1 P F enc s le) (hk:∀x,(enc x).length=s) (l:List α) (hl62:l.length<4611686018427387904) (hN:d<N)
  (hp:(ev st x0=one (.all n)∧m=l.length)∨(ev st x0=one (.ref n 0 m))) (hb:getB st n=some (.arr .ft e s (rowsF enc l)))
  (h:∀l':List α,l'.Perm (l.take m)→l'.Pairwise le→WL P γ0 w0 N ops r (.slot d (.tup [])::.blk n (.arr .ft e s (rowsF enc (l'++l.drop m)))::st) Q):
  WL P γ0 w0 N ops (⟨some d,.call ⟨.value (.func F), #[x0],ts⟩,ty,pos,after,none⟩::r) st Q:=fun a w hR=>by
 refine wpList_plain rfl fun K hK=>?_
 obtain⟨η,γ,hI⟩:=hR
 have h0:=ev_sound hI x0
 have hrun:=enter_of (P:=P) hf (a:=a) (w:=w) (args:=[x0]) (ts:=ts) (dst:=some d) (ty:=ty) (pos:=pos) (after:=after) (g:=none)
 unfold Oper.wp
 rw [hrun]
 show Calls P F ([x0].map a.eval).toArray w _
 simp only [List.map_cons,List.map_nil]
 obtain⟨xs,⟨ho1,ho2⟩,hr,hw,hgo,hff⟩:=hI.blks n _ hb
 rw [rowsF_flatten]at hr
 obtain⟨rfl,hone⟩:=scs_eq hr
 rw [rowsF_len]at ho1 ho2
 have hval:∃A c,a.eval x0=.slice A m c∧m≤l.length∧((m=0)∨∃b cap cur,A=some ⟨b,0,none⟩∧γ b=some n∧η n=.slice (some ⟨b,0,none⟩) l.length cap∧w.heap[b]?=some (.cells cur e (0,0))∧l.length≤cap∧cap≤maxLen∧cur.size=cap*s∧cur.toList.take (l.length*s)=(l.map enc).flatten):=by
  rcases hp with⟨hp,rfl⟩|hp
  ·rw [hp]at h0
   obtain⟨h0,-⟩:=RepV.one_iff.1 h0
   rcases ho2 with⟨ho,hz⟩|⟨b,cap,cur,ho,_,q1,q2,q3,q4,q5⟩
   ·exact⟨none,0,by rw [h0,ho,hz],Nat.le_refl _,.inl hz⟩
   ·exact⟨some ⟨b,0,none⟩,cap,by rw [h0,ho],Nat.le_refl _,.inr ⟨b,cap,cur,rfl,hgo b (by rw [ho];rfl),ho,q1,q2,q3,q4,q5⟩⟩
  ·rw [hp]at h0
   obtain⟨fl1,e1,s1,rows1,k1,k2,k3⟩:=RepV.one_iff.1 h0
   rw [hb]at k1
   cases k1
   rw [rowsF_len]at k2 k3
   rcases k3 with⟨_,k3,rfl⟩|⟨b,c,cap,k3,k4,k5,k6,_⟩
   ·exact⟨none,0,k3,Nat.zero_le _,.inl rfl⟩
   ·rcases ho2 with⟨ho,hz⟩|⟨b1,cap1,cur,ho,_,q1,q2,q3,q4,q5⟩
    ·rw [ho]at k3;cases k3
    ·rw [ho]at k3
     cases k3
     exact⟨some ⟨b,0,none⟩,cap,by rw [k4,Nat.zero_mul],by omega,.inr ⟨b,_,cur,rfl,hgo b (by rw [ho];rfl),ho,q1,q2,q3,q4,q5⟩⟩
 obtain⟨A,c,hx,hm,hval⟩:=hval
 rw [hx]
 have tupRep:∀{hb:Nat→Option Blk} {w:World},RepV hb η γ w (.tup []) (.tuple #[]):=⟨[],rfl,rfl,fun j g ls hj=>by simp at hj⟩
 rcases hval with rfl|⟨b,cap,cur,rfl,hgb,hηn,q1,q2,q3,q4,q5⟩
 ·refine(hs.1 A c w).mono fun e' w' ⟨he,hw'⟩=>?_
  subst he;subst hw'
  have h2:=hI.turnW n (rows':=rowsF enc l) hb rfl
  have hI2:R γ0 w0 N (.slot d (.tup [])::.blk n (.arr .ft e s (rowsF enc ([]++l.drop 0)))::st) (a.put (some d) (.tuple #[])) w':=by
   have hI3:R γ0 w0 N (.slot d (.tup [])::st) (a.put (some d) (.tuple #[])) w':=⟨η,γ,hI.put d _ _ hN tupRep⟩
   refine R.congr (fun t=>?_) (fun q=>?_) hI3
   ·rfl
   ·simp only [getB,List.nil_append,List.drop_zero]
    split
    ·rename_i e0;rw [←e0];exact hb
    ·rfl
  exact hK _ _ (h [] (by simp) List.Pairwise.nil _ _ hI2)
 ·have hls:(l.take m).length=m:=by simp;omega
  have hcap:l.length*s≤cap*s:=Nat.mul_le_mul_right _ q2
  have hms:m*s≤l.length*s:=Nat.mul_le_mul_right _ hm
  have hcur:∀j v,(((l.map enc).flatten))[j]?=some v→cur[j]?=some v:=fun j v hj=>by
   rw [←q5,List.getElem?_take]at hj
   split at hj
   ·simpa using hj
   ·cases hj
  have hsplit:(l.map enc).flatten=((l.take m).map enc).flatten++((l.drop m).map enc).flatten:=by
   rw [←List.flatten_append,←List.map_append,List.take_append_drop]
  have hcall:=hs.2 b 0 c cur e (l.take m) w q1 (by rw [hls];omega) (fun j v hj=>by
   rw [Nat.zero_add]
   refine hcur j v ?_
   rw [hsplit,List.getElem?_append_left (gsS hj).1]
   exact hj) (by rw [hls];omega)
  rw [hls]at hcall
  refine hcall.mono fun e' w' ⟨he,l',hperm,hsort,hos,htape,hout,hsize,hold,cur',k1,k2,k3,k4⟩=>?_
  subst he
  have hl':l'.length=m:=by rw [hperm.length_eq,hls]
  have hone':∀v∈((l'++l.drop m).map enc).flatten,v.oneCell'=true:=fun v hv=>by
   refine hone v ?_
   rw [hsplit]
   rw [List.map_append,List.flatten_append]at hv
   rcases List.mem_append.1 hv with hv|hv
   ·refine List.mem_append_left _ ?_
    obtain⟨row,hr1,hr2⟩:=List.mem_flatten.1 hv
    obtain⟨x,hx1,rfl⟩:=List.mem_map.1 hr1
    exact List.mem_flatten.2 ⟨_,List.mem_map.2 ⟨x,hperm.mem_iff.1 hx1,rfl⟩,hr2⟩
   ·exact List.mem_append_right _ hv
  have hlenT:(l'++l.drop m).length=l.length:=by simp [hl'];omega
  have hflT:(((l'++l.drop m).map enc).flatten).length=l.length*s:=by rw [flat_lenK hk,hlenT]
  have hcells:∀j v,(((l'++l.drop m).map enc).flatten)[j]?=some v→cur'[j]?=some v:=fun j v hj=>by
   rw [List.map_append,List.flatten_append,List.getElem?_append]at hj
   have e1:=flat_lenK hk l'
   rw [hl']at e1
   rw [e1]at hj
   split at hj
   ·have:=k4 j v hj
    rwa [Nat.zero_add]at this
   ·rename_i hlt
    rw [k3 j (.inr (by omega))]
    refine hcur j v ?_
    rw [hsplit,List.getElem?_append_right (by rw [flat_lenK hk,hls];omega),flat_lenK hk,hls]
    exact hj
  have hI2:=hI.turnW n (rows':=rowsF enc (l'++l.drop m)) hb (by rw [rowsF_len,rowsF_len,hlenT]) b hgb w' hos htape hout hsize hold
   ⟨((l'++l.drop m).map enc).flatten,⟨by rw [hflT,rowsF_len,hlenT],.inr ⟨b,cap,cur',by rw [rowsF_len,hlenT];exact hηn,Nat.zero_le _,k1,by rw [rowsF_len,hlenT];exact q2,q3,by rw [k2];exact q4,by
    rw [rowsF_len,hlenT]
    refine List.ext_getElem? fun j=>?_
    rw [List.getElem?_take]
    split
    ·rename_i hlt
     have hj:j<(((l'++l.drop m).map enc).flatten).length:=by rw [hflT];exact hlt
     have:=hcells j _ (gsE hj)
     rw [Array.getElem?_toList,this,gsE hj]
    ·rename_i hlt
     rw [List.getElem?_eq_none (by rw [hflT];omega)]⟩⟩,by rw [rowsF_flatten];exact scs_rep hone',fun row hr=>rowsF_wid hk _ row hr,hgo,⟨fun _ row hr x hx=>by
     unfold rowsF at hr
     obtain⟨y,_,rfl⟩:=List.mem_map.1 hr
     obtain⟨v,_,rfl⟩:=List.mem_map.1 hx
     exact⟨v,rfl⟩,fun e=>(by cases e),fun _ _ e=>(by cases e)⟩⟩
  exact hK _ _ (h l' hperm hsort _ _ ⟨η,γ,hI2.put d _ _ hN tupRep⟩)
theorem WL.opCut1 {ops:Array Oper}{r:List Oper}{d F n:Nat}{x0:Operand}{ts:Array TypeId}{ty:TypeId}{pos:String}{after:Array Edge}{α:Type}{enc:α→List Value}{s:Nat}{cut:List α→List α}{fl:Fl}{e:Nat}
  (hf:Has P F) (hs:CutsBy1 P F enc e s cut) (hk:∀x,(enc x).length=s) (l:List α) (hl62:l.length≤8796093022207) (hc1:∀l:List α,(cut l).length≤l.length) (hc2:∀(l:List α) x,x∈cut l→x∈l) (hN:d<N) (hn9:n≠999)
  (hp:ev st x0=one (.all n)) (hb:getB st n=some (.arr fl e s (rowsF enc l)))
  (h:WL P γ0 w0 N ops r (.slot d (one (.all n))::.blk n (.arr .ft e s (rowsF enc (cut l)))::.kill n::st) Q):
  WL P γ0 w0 N ops (⟨some d,.call ⟨.value (.func F), #[x0],ts⟩,ty,pos,after,none⟩::r) st Q:=fun a w hR=>by
 refine wpList_plain rfl fun K hK=>?_
 obtain⟨η,γ,hI⟩:=hR
 have h0:=ev_sound hI x0
 rw [hp]at h0
 obtain⟨h0,-⟩:=RepV.one_iff.1 h0
 have hrun:=enter_of (P:=P) hf (a:=a) (w:=w) (args:=[x0]) (ts:=ts) (dst:=some d) (ty:=ty) (pos:=pos) (after:=after) (g:=none)
 unfold Oper.wp
 rw [hrun]
 show Calls P F ([x0].map a.eval).toArray w _
 simp only [List.map_cons,List.map_nil,h0]
 obtain⟨xs,⟨ho1,ho2⟩,hr,hw,hgo,hff⟩:=hI.blks n _ hb
 rw [rowsF_flatten]at hr
 obtain⟨rfl,hone⟩:=scs_eq hr
 rw [rowsF_len]at ho1 ho2
 have hvn:∀b,(η n).ownBlock=some b→γ b=some n:=hgo
 have hflat:∀l':List α,Fl.ft=.ft→∀row∈rowsF enc l',∀x∈row,∃v,x=Leaf.sc v:=fun l' _ row hr x hx=>by
  unfold rowsF at hr
  obtain⟨y,_,rfl⟩:=List.mem_map.1 hr
  obtain⟨v,_,rfl⟩:=List.mem_map.1 hx
  exact⟨v,rfl⟩
 have hempty:l=[]→∃A c,η n=.slice A 0 c∧c≤maxLen:=fun hl=>by
  subst hl
  rcases ho2 with⟨ho,_⟩|⟨b,cap,cur,ho,_,_,_,q3,_⟩
  ·exact⟨none,0,ho,Nat.zero_le _⟩
  ·exact⟨_,_,ho,q3⟩
 by_cases hl0:l=[]
 ·obtain⟨A,c,hA,hc⟩:=hempty hl0
  subst hl0
  rw [hA]
  refine(hs.1 A c w hc).mono fun e' w' ⟨he,hw'⟩=>?_
  subst he
  have h2:=hI.grow n d hN (fun _=>hn9) (fl:=.ft) (e:=e) (s:=s) (rows:=rowsF enc ([]:List α)) (v:=η n) (v':=η n) (w':=w') (xs:=[]) hvn (by
    refine⟨by simp [rowsF],?_⟩
    rcases ho2 with⟨ho,hz⟩|⟨b,cap,cur,ho,q0,q1,q2,q3,q4,q5⟩
    ·exact .inl ⟨ho,rfl⟩
    ·exact .inr ⟨b,cap,cur,ho,q0,by rw [hw'.block b (heap_lt q1)];exact q1,Nat.zero_le _,q3,q4,by simp [rowsF]⟩)
   ⟨hw'.os,hw'.tape,hw'.output,hw'.size,fun k hk _=>hw'.block k hk⟩ (.inl rfl) (fun hk=>⟨by simp [rowsF],fun j x hj=>by simp [rowsF]at hj⟩) (fun row hr=>rowsF_wid hk _ row hr) rfl (hflat [])
  rw [hA]at h2
  have hce:cut ([]:List α)=[]:=List.length_eq_zero_iff.1 (Nat.le_zero.1 (hc1 []))
  exact hK _ _ (h _ _ (by rw [hce];exact h2))
 ·have hlp:0<l.length:=List.length_pos_iff.2 hl0
  rcases ho2 with⟨_,hz⟩|⟨b,cap,cur,ho,q0,q1,q2,q3,q4,q5⟩
  ·omega
  ·have hgb:γ b=some n:=hgo b (by rw [ho];rfl)
   rw [ho]
   refine(hs.2 b cap cur l w q1 hlp q2 q3 q4 q5 hl62 hone).mono fun e' w' ⟨he,cur',hbel,c1,c2⟩=>?_
   subst he
   have hfl:=hc1 l
   generalize hl':(cut l)=l' at*
   have hone':∀v∈(l'.map enc).flatten,v.oneCell'=true:=fun v hv=>by
    obtain⟨row,hr1,hr2⟩:=List.mem_flatten.1 hv
    obtain⟨x,hx1,rfl⟩:=List.mem_map.1 hr1
    rw [←hl']at hx1
    exact hone v (List.mem_flatten.2 ⟨_,List.mem_map.2 ⟨x,hc2 l x hx1,rfl⟩,hr2⟩)
   have hlt:=heap_lt q1
   have hpsz:w.heap.size≤w'.heap.size:=by have:=hbel.size;rw [putO_size]at this;exact this
   have h2:=hI.grow n d hN (fun _=>hn9) (fl:=.ft) (e:=e) (s:=s) (rows:=rowsF enc l') (v:=η n) (v':=.slice (some ⟨b,0,none⟩) l'.length cap) (w':=w') (xs:=(l'.map enc).flatten) hvn
    ⟨by rw [rowsF_len,flat_lenK hk],.inr ⟨b,cap,cur',by rw [rowsF_len],q0,by rw [hbel.block b hlt,putO_same _ hlt],by rw [rowsF_len];omega,q3,c1,by rw [rowsF_len];exact c2⟩⟩
    ⟨hbel.os,hbel.tape,hbel.output,hpsz,fun k hk hkb=>by
     rw [hbel.block k hk]
     exact putO_other _ fun e0=>hkb (by rw [ho,e0];rfl)⟩
    (.inl (by rw [ho];rfl)) (fun _=>by rw [rowsF_flatten];exact scs_rep hone') (fun row hr=>rowsF_wid hk _ row hr) rfl (hflat l')
   exact hK _ _ (h _ _ h2)
end
section
variable {γ0:Nat→Option Nat}{w0:World}{N:Nat}{st:St}{Q:Exit→Act→World→Prop}
theorem WL.opSort1A {ops:Array Oper}{r:List Oper}{d F n:Nat}{x0:Operand}{ts:Array TypeId}{ty:TypeId}{pos:String}{after:Array Edge}{α:Type}{enc:α→List Value}{s:Nat}{le:α→α→Prop}{e:Nat}
  (hf:Has Tryz.prog F) (hs:SortsBy1 Tryz.prog F enc s le) (hk:∀x,(enc x).length=s) (l:List α) (hl62:l.length<4611686018427387904) (hN:d<N:=by decide)
  (hp:ev st x0=one (.all n):=by exact evsP) (hb:getB st n=some (.arr .ft e s (rowsF enc l)):=by exact evsP)
  (h:∀l':List α,l'.Perm l→l'.Pairwise le→WL Tryz.prog γ0 w0 N ops r (.slot d (.tup [])::.blk n (.arr .ft e s (rowsF enc l'))::st) Q):
  WL Tryz.prog γ0 w0 N ops (⟨some d,.call ⟨.value (.func F), #[x0],ts⟩,ty,pos,after,none⟩::r) st Q:=
 WL.opSort1 hf hs hk l hl62 hN (.inl ⟨hp,rfl⟩) hb fun l' h1 h2=>by
  rw [List.take_length]at h1
  rw [List.drop_length,List.append_nil]
  exact h l' h1 h2
end
section
variable {γ0:Nat→Option Nat}{w0:World}{N:Nat}{st:St}{Q:Exit→Act→World→Prop}
theorem WL.opCut1A {ops:Array Oper}{r:List Oper}{d F n:Nat}{x0:Operand}{ts:Array TypeId}{ty:TypeId}{pos:String}{after:Array Edge}{fl:Fl}{e:Nat}
  (hf:Has Tryz.prog F) (hs:CutsBy1 Tryz.prog F cInt e 1 Lib.compact) (l:List Int) (hl62:l.length≤8796093022207) (hN:d<N:=by decide) (hn9:n≠999:=by decide)
  (hp:ev st x0=one (.all n):=by exact evsP) (hb:getB st n=some (.arr fl e 1 (rowsF cInt l)):=by exact evsP)
  (h:WL Tryz.prog γ0 w0 N ops r (.slot d (one (.all n))::.blk n (.arr .ft e 1 (rowsF cInt (Lib.compact l)))::.kill n::st) Q):
  WL Tryz.prog γ0 w0 N ops (⟨some d,.call ⟨.value (.func F), #[x0],ts⟩,ty,pos,after,none⟩::r) st Q:=
 WL.opCut1 hf hs (fun _=>rfl) l hl62 Lib.compact_length_le compact_sub hN hn9 hp hb h
end
theorem sortI_s:SortsBy1 Tryz.prog 174 cInt 1 (fun x y:Int=>x≤y):=sortsI_of Tryz.sortI
theorem compI_s (e:Nat):CutsBy1 Tryz.prog 175 cInt e 1 Lib.compact:=cutsI_of Tryz.compI e
end
section
open Go Go.RowKit Go.Shelf Go.Sort
def SortsBy (P:Program)(F g:FuncId){α:Type}(enc:α→List Value)(k:Nat)(cf:α→α→Int):Prop:=
 (∀A cap w,Calls P F #[.slice A 0 cap,.func (.func g) #[] #[]] w fun e w'=>e=.returned (.tuple #[])∧w'=w)∧
 ∀(b off cap:Nat) (cur:Array Value) (ty:TypeId) (l:List α) (w:World),w.heap[b]?=some (.cells cur ty (0,0))→off+l.length*k≤cur.size→(∀j v,((l.map enc).flatten)[j]?=some v→cur[off+j]?=some v)→l.length<4611686018427387904→
  Calls P F #[.slice (some ⟨b,off,none⟩) l.length cap,.func (.func g) #[] #[]] w fun e w'=>e=.returned (.tuple #[])∧∃l':List α,l'.Perm l∧l'.Pairwise (fun x y=>¬cf y x<0)∧w'.os=w.os∧w'.tape=w.tape∧w'.output=w.output∧w.heap.size≤w'.heap.size∧(∀q,q<w.heap.size→q≠b→w'.heap[q]?=w.heap[q]?)∧
   ∃cur':Array Value,w'.heap[b]?=some (.cells cur' ty (0,0))∧cur'.size=cur.size∧(∀j,j<off∨off+l.length*k≤j→cur'[j]?=cur[j]?)∧∀j v,((l'.map enc).flatten)[j]?=some v→cur'[off+j]?=some v
def CmpSays (P:Program)(g:FuncId){α:Type}(enc:α→List Value)(cf:α→α→Int):Prop:=∀x y w,Calls P g #[.agg (enc x).toArray,.agg (enc y).toArray] w fun e w'=>e=.returned (.int .i64 (cf x y))∧∃os',w'=grow w os'
section
variable {α:Type}{enc:α→List Value}{k:Nat}
theorem flatK_get [Inhabited α](hk:∀x,(enc x).length=k)(l:List α)(t:Nat)(ht:t<l.length*k):((l.map enc).flatten)[t]?=some (flatK enc k l.toArray)[t]!:=by
 have k0:0<k:=by
  rcases Nat.eq_zero_or_pos k with h|h
  ·subst h;simp at ht
  ·exact h
 have hi:t/k<l.length:=Nat.div_lt_of_lt_mul (by rw [Nat.mul_comm];exact ht)
 have hm:t%k<k:=Nat.mod_lt _ k0
 have h1:=flatten_row (s:=k) (rows:=l.map enc) (fun row hr=>by
  obtain⟨x,_,rfl⟩:=List.mem_map.1 hr
  exact hk x) (i:=t/k) (row:=enc l[t/k]) (by simp [hi]) (t%k) hm
 rw [Nat.div_add_mod' t k]at h1
 rw [h1,get_flatK _ _ _ _ (by simpa using ht)]
 have h2:(l.toArray[t/k]!)=l[t/k]:=by simp [hi]
 rw [h2,getElem!_pos _ _ (by rw [hk];exact hm),gsE (by rw [hk];exact hm)]
theorem sorts_of [Inhabited α]{P:Program}{ρ:Ren}(L:SlLaysF0.n6 P ρ)(aE:∀w,(isAgg (ρ.t 24)).run P w=.ok true w)(zE:∀w,(Go.sizeOf (ρ.t 24)).run P w=.ok k w)(hk:∀x,(enc x).length=k)(h1:∀x,∀v∈enc x,v.oneCell'=true)(cf:α→α→Int)(hO:SWO (ltOf cf)){g:FuncId}
  (eg:∀args w,(callFunc g args).run P w=.ok (.enter g args) w) (hc:CmpSays P g enc cf):SortsBy P (ρ.f 6) g enc k cf:=by
 refine⟨fun A cap w=>AnyF.slices_SortFunc_none L A cap _ w,fun b off cap cur ty l w hh hoff hcells hlen=>?_⟩
 have hblk:=heap_lt hh
 have hH:HoldsK enc k w b off l.toArray:=by
  intro j hj
  rw [size_flatK]at hj
  have hj':j<l.length*k:=by simpa using hj
  have h3:=hcells j _ (flatK_get hk l j hj')
  refine⟨?_,?_⟩
  ·simp only [World.cell?,hh,Option.isSome_none,Bool.false_eq_true,if_false,id,h3]
  ·simp only [World.frozen?,hh]
   simp
 have hcmp:CmpLays P g #[] enc k cf b off l.toArray.size w:=fun m os dk _ x y=>(hc x y _).mono fun e w' ⟨he,os',hw⟩=>⟨he,0,os',hw⟩
 have hcon:=AnyQ.slices_SortFunc L k aE zE enc hk h1 cf hO g #[] b off cap l.toArray w eg hcmp hH hblk (by simpa using hlen)
 rw [List.size_toArray]at hcon
 refine hcon.mono ?_
 rintro e w' ⟨he,d',n,os,⟨p1,p2,p3⟩,hs,rfl⟩
 have hds:d'.size=l.length:=by simpa using p1
 have hlt:b<(putRowK enc k (Sort.ahead w n) b off d').heap.size:=by rw [size_putRowK];exact hblk
 have hold:∀q,q<w.heap.size→(sortWorldK enc k w b off n d' os).heap[q]?=(putRowK enc k (Sort.ahead w n) b off d').heap[q]?:=fun q hq=>by
  simp only [sortWorldK,grow]
  exact Array.getElem?_append_left (by rw [size_putRowK];exact hq)
 refine⟨he,d'.toList,?_,?_,rfl,rfl,rfl,?_,?_,putCells id off (flatK enc k d') cur,?_,?_,?_,?_⟩
 ·have e1:d'.extract 0 l.length=d':=by rw [←hds];simp
  have e2:l.toArray.extract 0 l.length=l.toArray:=by simp
  rw [e1,e2]at p3
  simpa using p3
 ·rw [List.pairwise_iff_getElem]
  intro i j hi hj hij
  have hi':i<d'.size:=by simpa using hi
  have hj':j<d'.size:=by simpa using hj
  have:=hs i j (Nat.zero_le _) hij (by omega)
  rw [getElem!_pos d' j hj',getElem!_pos d' i hi']at this
  simp only [ltOf,decide_eq_false_iff_not]at this
  simpa using this
 ·simp [sortWorldK,grow,putRowK]
 ·intro q hq hne
  rw [hold q hq]
  simp only [putRowK,putRow,mapBlock]
  rw [Array.getElem?_modify,if_neg (fun e=>hne e.symm)]
  rfl
 ·rw [hold b hblk]
  simp only [putRowK,putRow,mapBlock]
  rw [Array.getElem?_modify,if_pos rfl]
  show Option.map _ w.heap[b]?=_
  rw [hh]
  rfl
 ·simp [putCells]
 ·intro j hj
  simp only [putCells,Array.getElem?_mapIdx]
  have:¬(off≤j∧j<off+(flatK enc k d').size):=by rw [size_flatK,hds];omega
  cases cur[j]? with
  |none=>rfl
  |some x=>rw [Option.map_some,if_neg this]
 ·intro j v hv
  have hlen2:((d'.toList.map enc).flatten).length=l.length*k:=by
   have e3:=flat_lenK hk d'.toList
   rw [e3,Array.length_toList,hds]
  have hj:j<l.length*k:=by rw [←hlen2];exact(gsS hv).1
  have h3:=flatK_get hk d'.toList j (by simpa [hds]using hj)
  rw [hv]at h3
  simp only [Array.toArray_toList,Option.some.injEq]at h3
  simp only [putCells,Array.getElem?_mapIdx]
  have hin:off≤off+j∧off+j<off+(flatK enc k d').size:=by rw [size_flatK,hds];omega
  rw [Array.getElem?_eq_getElem (by omega),Option.map_some,if_pos hin,Nat.add_sub_cancel_left,h3]
  rfl
end
section
variable {P:Program}{γ0:Nat→Option Nat}{w0:World}{N:Nat}{st:St}{a:Act}{w:World}{η:Nat→Value}{γ:Nat→Option Nat}{Q:Exit→Act→World→Prop}
theorem WL.opSort {ops:Array Oper}{r:List Oper}{d F g n m:Nat}{x0 x1:Operand}{ts:Array TypeId}{ty:TypeId}{pos:String}{after:Array Edge}{α:Type}{enc:α→List Value}{s:Nat}{cf:α→α→Int}{e:Nat}
  (hf:Has P F) (hs:SortsBy P F g enc s cf) (hk:∀x,(enc x).length=s) (l:List α) (hl62:l.length<4611686018427387904) (hN:d<N)
  (hp:(ev st x0=one (.all n)∧m=l.length)∨(ev st x0=one (.ref n 0 m))) (hg:ev st x1=one (.fn g [])) (hb:getB st n=some (.arr .ft e s (rowsF enc l)))
  (h:∀l':List α,l'.Perm (l.take m)→l'.Pairwise (fun x y=>¬cf y x<0)→WL P γ0 w0 N ops r (.slot d (.tup [])::.blk n (.arr .ft e s (rowsF enc (l'++l.drop m)))::st) Q):
  WL P γ0 w0 N ops (⟨some d,.call ⟨.value (.func F), #[x0,x1],ts⟩,ty,pos,after,none⟩::r) st Q:=fun a w hR=>by
 refine wpList_plain rfl fun K hK=>?_
 obtain⟨η,γ,hI⟩:=hR
 have h0:=ev_sound hI x0
 have h1:=ev_sound hI x1
 rw [hg]at h1
 obtain⟨h1,-⟩:=RepV.one_iff.1 h1
 have hrun:=enter_of (P:=P) hf (a:=a) (w:=w) (args:=[x0,x1]) (ts:=ts) (dst:=some d) (ty:=ty) (pos:=pos) (after:=after) (g:=none)
 unfold Oper.wp
 rw [hrun]
 show Calls P F ([x0,x1].map a.eval).toArray w _
 simp only [List.map_cons,List.map_nil,h1]
 obtain⟨xs,⟨ho1,ho2⟩,hr,hw,hgo,hff⟩:=hI.blks n _ hb
 rw [rowsF_flatten]at hr
 obtain⟨rfl,hone⟩:=scs_eq hr
 rw [rowsF_len]at ho1 ho2
 have hval:∃A c,a.eval x0=.slice A m c∧m≤l.length∧((m=0)∨∃b cap cur,A=some ⟨b,0,none⟩∧γ b=some n∧η n=.slice (some ⟨b,0,none⟩) l.length cap∧w.heap[b]?=some (.cells cur e (0,0))∧l.length≤cap∧cap≤maxLen∧cur.size=cap*s∧cur.toList.take (l.length*s)=(l.map enc).flatten):=by
  rcases hp with⟨hp,rfl⟩|hp
  ·rw [hp]at h0
   obtain⟨h0,-⟩:=RepV.one_iff.1 h0
   rcases ho2 with⟨ho,hz⟩|⟨b,cap,cur,ho,_,q1,q2,q3,q4,q5⟩
   ·exact⟨none,0,by rw [h0,ho,hz],Nat.le_refl _,.inl hz⟩
   ·exact⟨some ⟨b,0,none⟩,cap,by rw [h0,ho],Nat.le_refl _,.inr ⟨b,cap,cur,rfl,hgo b (by rw [ho];rfl),ho,q1,q2,q3,q4,q5⟩⟩
  ·rw [hp]at h0
   obtain⟨fl1,e1,s1,rows1,k1,k2,k3⟩:=RepV.one_iff.1 h0
   rw [hb]at k1
   cases k1
   rw [rowsF_len]at k2 k3
   rcases k3 with⟨_,k3,rfl⟩|⟨b,c,cap,k3,k4,k5,k6,_⟩
   ·exact⟨none,0,k3,Nat.zero_le _,.inl rfl⟩
   ·rcases ho2 with⟨ho,hz⟩|⟨b1,cap1,cur,ho,_,q1,q2,q3,q4,q5⟩
    ·rw [ho]at k3;cases k3
    ·rw [ho]at k3
     cases k3
     exact⟨some ⟨b,0,none⟩,cap,by rw [k4,Nat.zero_mul],by omega,.inr ⟨b,_,cur,rfl,hgo b (by rw [ho];rfl),ho,q1,q2,q3,q4,q5⟩⟩
 obtain⟨A,c,hx,hm,hval⟩:=hval
 rw [hx]
 have tupRep:∀{hb:Nat→Option Blk} {w:World},RepV hb η γ w (.tup []) (.tuple #[]):=⟨[],rfl,rfl,fun j g ls hj=>by simp at hj⟩
 rcases hval with rfl|⟨b,cap,cur,rfl,hgb,hηn,q1,q2,q3,q4,q5⟩
 ·refine(hs.1 A c w).mono fun e' w' ⟨he,hw'⟩=>?_
  subst he;subst hw'
  have h2:=hI.turnW n (rows':=rowsF enc l) hb rfl
  have hI2:R γ0 w0 N (.slot d (.tup [])::.blk n (.arr .ft e s (rowsF enc ([]++l.drop 0)))::st) (a.put (some d) (.tuple #[])) w':=by
   have hI3:R γ0 w0 N (.slot d (.tup [])::st) (a.put (some d) (.tuple #[])) w':=⟨η,γ,hI.put d _ _ hN tupRep⟩
   refine R.congr (fun t=>?_) (fun q=>?_) hI3
   ·rfl
   ·simp only [getB,List.nil_append,List.drop_zero]
    split
    ·rename_i e0;rw [←e0];exact hb
    ·rfl
  exact hK _ _ (h [] (by simp) List.Pairwise.nil _ _ hI2)
 ·have hls:(l.take m).length=m:=by simp;omega
  have hcap:l.length*s≤cap*s:=Nat.mul_le_mul_right _ q2
  have hms:m*s≤l.length*s:=Nat.mul_le_mul_right _ hm
  have hcur:∀j v,(((l.map enc).flatten))[j]?=some v→cur[j]?=some v:=fun j v hj=>by
   rw [←q5,List.getElem?_take]at hj
   split at hj
   ·simpa using hj
   ·cases hj
  have hsplit:(l.map enc).flatten=((l.take m).map enc).flatten++((l.drop m).map enc).flatten:=by
   rw [←List.flatten_append,←List.map_append,List.take_append_drop]
  have hcall:=hs.2 b 0 c cur e (l.take m) w q1 (by rw [hls];omega) (fun j v hj=>by
   rw [Nat.zero_add]
   refine hcur j v ?_
   rw [hsplit,List.getElem?_append_left (gsS hj).1]
   exact hj) (by rw [hls];omega)
  rw [hls]at hcall
  refine hcall.mono fun e' w' ⟨he,l',hperm,hsort,hos,htape,hout,hsize,hold,cur',k1,k2,k3,k4⟩=>?_
  subst he
  have hl':l'.length=m:=by rw [hperm.length_eq,hls]
  have hone':∀v∈((l'++l.drop m).map enc).flatten,v.oneCell'=true:=fun v hv=>by
   refine hone v ?_
   rw [hsplit]
   rw [List.map_append,List.flatten_append]at hv
   rcases List.mem_append.1 hv with hv|hv
   ·refine List.mem_append_left _ ?_
    obtain⟨row,hr1,hr2⟩:=List.mem_flatten.1 hv
    obtain⟨x,hx1,rfl⟩:=List.mem_map.1 hr1
    exact List.mem_flatten.2 ⟨_,List.mem_map.2 ⟨x,hperm.mem_iff.1 hx1,rfl⟩,hr2⟩
   ·exact List.mem_append_right _ hv
  have hlenT:(l'++l.drop m).length=l.length:=by simp [hl'];omega
  have hflT:(((l'++l.drop m).map enc).flatten).length=l.length*s:=by rw [flat_lenK hk,hlenT]
  have hcells:∀j v,(((l'++l.drop m).map enc).flatten)[j]?=some v→cur'[j]?=some v:=fun j v hj=>by
   rw [List.map_append,List.flatten_append,List.getElem?_append]at hj
   have e1:=flat_lenK hk l'
   rw [hl']at e1
   rw [e1]at hj
   split at hj
   ·have:=k4 j v hj
    rwa [Nat.zero_add]at this
   ·rename_i hlt
    rw [k3 j (.inr (by omega))]
    refine hcur j v ?_
    rw [hsplit,List.getElem?_append_right (by rw [flat_lenK hk,hls];omega),flat_lenK hk,hls]
    exact hj
  have hI2:=hI.turnW n (rows':=rowsF enc (l'++l.drop m)) hb (by rw [rowsF_len,rowsF_len,hlenT]) b hgb w' hos htape hout hsize hold
   ⟨((l'++l.drop m).map enc).flatten,⟨by rw [hflT,rowsF_len,hlenT],.inr ⟨b,cap,cur',by rw [rowsF_len,hlenT];exact hηn,Nat.zero_le _,k1,by rw [rowsF_len,hlenT];exact q2,q3,by rw [k2];exact q4,by
    rw [rowsF_len,hlenT]
    refine List.ext_getElem? fun j=>?_
    rw [List.getElem?_take]
    split
    ·rename_i hlt
     have hj:j<(((l'++l.drop m).map enc).flatten).length:=by rw [hflT];exact hlt
     have:=hcells j _ (gsE hj)
     rw [Array.getElem?_toList,this,gsE hj]
    ·rename_i hlt
     rw [List.getElem?_eq_none (by rw [hflT];omega)]⟩⟩,by rw [rowsF_flatten];exact scs_rep hone',fun row hr=>rowsF_wid hk _ row hr,hgo,⟨fun _ row hr x hx=>by
     unfold rowsF at hr
     obtain⟨y,_,rfl⟩:=List.mem_map.1 hr
     obtain⟨v,_,rfl⟩:=List.mem_map.1 hx
     exact⟨v,rfl⟩,fun e=>(by cases e),fun _ _ e=>(by cases e)⟩⟩
  exact hK _ _ (h l' hperm hsort _ _ ⟨η,γ,hI2.put d _ _ hN tupRep⟩)
end
section
variable {γ0:Nat→Option Nat}{w0:World}{N:Nat}{st:St}{Q:Exit→Act→World→Prop}
theorem WL.opSortA {ops:Array Oper}{r:List Oper}{d F g n:Nat}{x0 x1:Operand}{ts:Array TypeId}{ty:TypeId}{pos:String}{after:Array Edge}{α:Type}{enc:α→List Value}{s:Nat}{cf:α→α→Int}{e:Nat}
  (hf:Has Tryz.prog F) (hs:SortsBy Tryz.prog F g enc s cf) (hk:∀x,(enc x).length=s) (l:List α) (hl62:l.length<4611686018427387904) (hN:d<N:=by decide)
  (hp:ev st x0=one (.all n):=by exact evsP) (hg:ev st x1=one (.fn g []):=by rfl) (hb:getB st n=some (.arr .ft e s (rowsF enc l)):=by exact evsP)
  (h:∀l':List α,l'.Perm l→l'.Pairwise (fun x y=>¬cf y x<0)→WL Tryz.prog γ0 w0 N ops r (.slot d (.tup [])::.blk n (.arr .ft e s (rowsF enc l'))::st) Q):
  WL Tryz.prog γ0 w0 N ops (⟨some d,.call ⟨.value (.func F), #[x0,x1],ts⟩,ty,pos,after,none⟩::r) st Q:=
 WL.opSort hf hs hk l hl62 hN (.inl ⟨hp,rfl⟩) hg hb fun l' h1 h2=>by
  rw [List.take_length]at h1
  rw [List.drop_length,List.append_nil]
  exact h l' h1 h2
end
end
end Go.Proofs.YtfgkfcfplodaoaaGreatDoor
