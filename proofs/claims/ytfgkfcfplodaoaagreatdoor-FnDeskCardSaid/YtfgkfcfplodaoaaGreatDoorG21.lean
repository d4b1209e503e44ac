/-
  Put together out of 4 texts.
-/
import Derived.Test.YtfgkfcfplodaoaaGreatDoorG19
import Derived.Test.YtfgkfcfplodaoaaGreatDoorG17
set_option linter.unusedSimpArgs false
set_option linter.unusedVariables false
set_option maxRecDepth 100000
namespace Go.Proofs.YtfgkfcfplodaoaaGreatDoor
open Go Go.RowKit
section
def PostDk (b:Nat)(w:World)(cs:List Leaf)(v:Value)(e:Ending)(w':World):Prop:=
 ∃us t,e=.returned v∧v.oneCell'=true∧Below w.heap.size (putO w b (.cells us t (0,0))) w'∧w'.heap[b]?=some (.cells us t (0,0))∧RepLs w' (own1 b) cs us.toList
def SoundDk (P:Program)(f:FuncId){α:Type}(ok:α→Prop)(cs:α→List Leaf)(enc:α→List Arg)(cs':α→List Leaf)(out:α→Value):Prop:=
 ∀x b t us vs w,ok x→GlobOk (own1 b) w→RepLs w (own1 b) (cs x) us.toList→w.heap[b]?=some (.cells us t (0,0))→RepDs w (own1 b) (enc x) vs→
  Calls P f (Value.pointer (some ⟨b,0,none⟩)::vs).toArray w (PostDk b w (cs' x) (out x))
section
variable {P:Program}{Γ:Models}{γ0:Nat→Option Nat}{w0:World}{N:Nat}{st st1:St}{a:Act}{w:World}{η:Nat→Value}{γ:Nat→Option Nat}{Q:Exit→Act→World→Prop}
theorem Inv.turnD (h:Inv γ0 w0 N st a w η γ)(n:Nat)(ls0 ls1:List PL)(hb0:getB st n=some (.box ls0))(g:Nat)(hg:γ g=some n)(w':World)
  (hos:w'.os=w.os) (htape:w'.tape=w.tape) (hout:w'.output=w.output) (hsize:w.heap.size≤w'.heap.size) (hold:∀k,k<w.heap.size→k≠g→w'.heap[k]?=w.heap[k]?)
  (hB:RepB (getB (.blk n (.box ls1)::st)) η γ w' n (.box ls1)):
  Inv γ0 w0 N (.blk n (.box ls1)::st) a w' η γ:=by
 have hlive:∀k m,γ k=some m→k<w.heap.size:=fun k m hk=>(h.live k m hk).1
 have hk:Kp w w' γ γ:=⟨hsize,fun k hk hgk=>⟨hgk,hold k hk (fun e=>by rw [e,hg]at hgk;cases hgk)⟩⟩
 have hget:∀m,m≠n→getB (.blk n (.box ls1)::st) m=getB st m:=fun m hm=>if_neg (fun e=>hm e.symm)
 have hn:Nm (getB st) (getB (.blk n (.box ls1)::st)) η η (fun _=>True):=by
  intro m b' _ hb
  refine⟨rfl,?_⟩
  by_cases hm:m=n
  ·subst hm
   rw [hb0]at hb
   cases hb
   exact⟨ls1,if_pos rfl⟩
  ·cases b' with
   |arr fl e s rows=>exact⟨fl,rows,by rw [hget m hm];exact hb,rfl⟩
   |box ls=>exact⟨ls,by rw [hget m hm];exact hb⟩
 have hgm:∀m b0,m≠n→γ b0=some m→γ b0=some m∧w'.heap[b0]?=w.heap[b0]?:=fun m b0 hm hb0=>⟨hb0,hold b0 (hlive b0 m hb0) (fun e=>by rw [e,hg]at hb0;cases hb0;exact hm rfl)⟩
 refine {h with slots:=fun t=>(h.slots t).kp hn hk,blks:=fun m b' hb=>?_,live:=fun b0 m hb=>?_,low:=fun b0 hb hg0=>?_,size:=Nat.le_trans h.size hsize,os:=hos.trans h.os,tape:=htape.trans h.tape,output:=hout.trans h.output,pin:=fun h9 b2 ls hb hbx=>?_,pinA:=h.pinA.to fun h9 fl e s rows hbx=>⟨rfl,fl,rows,?_,rfl⟩}
 ·by_cases hm:m=n
  ·subst hm
   rw [getB_hit]at hb
   cases hb
   exact hB
  ·rw [hget m hm]at hb
   have h1:=h.blks m b' hb
   cases b' with
   |box ls=>exact RepB.kp_box hn hk h1 rfl (hgm m · hm)
   |arr fl e s rows=>exact RepB.kp_arr hk h1 rfl (hgm m · hm)
 ·obtain⟨h1,h2,h3⟩:=h.live b0 m hb
  refine⟨Nat.lt_of_lt_of_le h1 hsize,h2.imp id fun h2=>?_,?_⟩
  ·by_cases hm:m=n
   ·subst hm
    rw [hb0]at h2
    cases h2
   ·rw [hget m hm];exact h2
  ·by_cases hm:m=n
   ·subst hm;simp [getB]
   ·rw [hget m hm];exact h3
 ·obtain⟨h1,h2⟩:=h.low b0 hb hg0
  exact⟨h1,by rw [hold b0 (Nat.lt_of_lt_of_le hb h.size) (fun e=>by rw [e,hg]at h1;cases h1)];exact h2⟩
 ·by_cases hm:(999:Nat)=n
  ·subst hm
   exact h.pin h9 b2 ls0 hb hb0
  ·rw [hget 999 hm]at hbx
   exact h.pin h9 b2 ls hb hbx
 ·by_cases hm:(999:Nat)=n
  ·subst hm
   rw [getB_hit]at hbx
   cases hbx
  ·rw [hget 999 hm]at hbx
   exact hbx
theorem frz_box {n:Nat}{bs:List PL}:∀{ls:List PL} (_:∀l∈ls,∀m,(l=.all m∨∃o k,l=.ref m o k)→m≠n) (_:getB st n=some (.box bs)),∃bs',getB (Go.Proofs.YtfgkfcfplodaoaaGreatDoor.frz ls st) n=some (.box bs')
 |[],_,h=>⟨bs,h⟩
 |l::r,hne,h=>by
  obtain⟨bs',h1⟩:=frz_box (ls:=r) (fun x hx=>hne x (List.mem_cons_of_mem _ hx)) h
  cases l with
  |all m=>
   refine⟨bs'.map (PL.kill m),?_⟩
   show(if m=n then none else(getB (frz r st) n).map (Blk.kill m))=_
   rw [if_neg (hne _ List.mem_cons_self m (.inl rfl)),h1]
   rfl
  |ref m o k=>
   refine⟨bs'.map (PL.kill m),?_⟩
   show(if m=n then none else(getB (frz r st) n).map (Blk.kill m))=_
   rw [if_neg (hne _ List.mem_cons_self m (.inr ⟨o,k,rfl⟩)),h1]
   rfl
  |_=>exact⟨bs',h1⟩
theorem R.frzB (h:R γ0 w0 N st a w){n:Nat}{ls:List PL}{xs:List Leaf}(hb:getB st n=some (.box ls))(hx:leafsO st ls=some xs):R γ0 w0 N (.blk n (.box (xs.map toPL))::Go.Proofs.YtfgkfcfplodaoaaGreatDoor.frz ls st) a w:=by
 obtain⟨η,γ,hI⟩:=h
 obtain⟨b,us,t,g1,g2,g3,g4⟩:=hI.blks n _ hb
 obtain⟨γ',hI',hsub⟩:=hI.frz ls
 have hne:∀l∈ls,∀m,(l=.all m∨∃o k,l=.ref m o k)→m≠n:=fun l hl m he e=>by
  subst e
  obtain⟨j,hj⟩:=List.mem_iff_getElem?.1 hl
  obtain⟨u0,_,k2⟩:=g4.2 j l hj
  rcases he with rfl|⟨o,q,rfl⟩
  ·obtain⟨_,fl,e,s,rows,k3⟩:=k2
   rw [hb]at k3
   cases k3
  ·obtain⟨fl,e,s,rows,k3,_⟩:=k2
   rw [hb]at k3
   cases k3
 obtain⟨bs',hb'⟩:=frz_box hne hb
 obtain⟨b2,us2,t2,g5,g6,g7,g8⟩:=hI'.blks n _ hb'
 rw [g1]at g5
 cases g5
 rw [g3]at g7
 cases g7
 have hk:∀k,γ k=none→γ' k=none:=fun k hk=>by
  cases hg:γ' k with
  |none=>rfl
  |some m=>rw [(hsub k m hg).1]at hk;cases hk
 have hrep:RepLs w γ' xs us.toList:=leafsO_sound hI hk (fun k m hkm ⟨l,hl,he⟩=>by
  cases hg:γ' k with
  |none=>rfl
  |some m'=>
   obtain⟨h1,h2⟩:=hsub k m' hg
   rw [hkm]at h1
   cases h1
   obtain⟨h3,h4⟩:=h2 l hl
   rcases he with he|⟨o,q,he⟩
   ·exact absurd rfl (h3 m he)
   ·exact absurd rfl (h4 m o q he)) g4 hx
 exact⟨η,γ',hI'.turnD n _ (xs.map toPL) hb' b g6 w rfl rfl rfl (Nat.le_refl _) (fun _ _ _=>rfl) ⟨b,us,t,g1,g6,g3,toPLs_sound hrep⟩⟩
def dtL:PL→Option Leaf
 |.sc v=>some (.sc v)
 |.nil=>some (.sl [])
 |.sl rows=>some (.sl rows)
 |_=>none
def dtLs:List PL→Option (List Leaf)
 |[]=>some []
 |l::r=>match dtL l,dtLs r with
  |some x,some y=>some (x::y)
  |_,_=>none
theorem dtL_sound {hb:Nat→Option Blk}{l:PL}{x:Leaf}{u:Value}(h:RepP hb η γ w l u)(hx:dtL l=some x):RepL w γ x u:=by
 cases l with
 |sc v=>
  simp only [dtL,Option.some.injEq]at hx
  subst hx
  obtain⟨rfl,h2⟩:=h
  exact .sc h2
 |nil=>
  simp only [dtL,Option.some.injEq]at hx
  subst hx
  have h:u=.slice none 0 0:=h
  subst h
  exact .emp (Nat.zero_le _)
 |sl rows=>
  simp only [dtL,Option.some.injEq]at hx
  subst hx
  exact h
 |_=>simp [dtL]at hx
theorem dtLs_sound {hb:Nat→Option Blk}:∀{ls:List PL} {xs:List Leaf} {us:List Value} (_:RepPs hb η γ w ls us) (_:dtLs ls=some xs),RepLs w γ xs us
 |[],xs,us,h,hx=>by
  simp only [dtLs,Option.some.injEq]at hx
  subst hx
  exact⟨h.1,fun j l hj=>by simp at hj⟩
 |l::r,xs,us,h,hx=>by
  unfold dtLs at hx
  split at hx
  ·rename_i x y h1 h2
   cases hx
   obtain⟨u0,g1,g2⟩:=h.2 0 l rfl
   cases us with
   |nil=>cases g1
   |cons u1 ur=>
    have g1:u1=u0:=by simpa using g1
    subst g1
    have hr:RepPs hb η γ w r ur:=⟨by simpa using h.1,fun j l' hj=>by
     obtain⟨u2,k1,k2⟩:=h.2 (j+1) l' (by simpa using hj)
     exact⟨u2,by simpa using k1,k2⟩⟩
    obtain⟨m1,m2⟩:=dtLs_sound hr h2
    refine⟨by simpa using m1,fun j l' hj=>?_⟩
    cases j with
    |zero=>
     simp only [List.getElem?_cons_zero,Option.some.injEq]at hj
     subst hj
     exact⟨u1,rfl,dtL_sound g2 h1⟩
    |succ j=>
     obtain⟨u2,k1,k2⟩:=m2 j l' (by simpa using hj)
     exact⟨u2,by simpa using k1,k2⟩
  ·cases hx
theorem WL.opDk {ops:Array Oper}{r:List Oper}{d f n:Nat}{x0:Operand}{xs:List Operand}{ts:Array TypeId}{ty:TypeId}{pos:String}{after:Array Edge}
  {α:Type} {ok:α→Prop} {cs:α→List Leaf} {enc:α→List Arg} {cs':α→List Leaf} {out:α→Value} {ls:List PL}
  (hf:Has P f) (hs:SoundDk P f ok cs enc cs' out) (x:α) (hok:ok x) (hN:d<N)
  (hp:ev st x0=one (.ptr n 0)) (hb:getB st n=some (.box ls)) (hls:dtLs ls=some (cs x)) (hon:onlyB n st=true) (ha:datasO st n xs=some (enc x))
  (h:WL P γ0 w0 N ops r (.slot d (one (.sc (out x)))::.blk n (.box ((cs' x).map toPL))::st) Q):
  WL P γ0 w0 N ops (⟨some d,.call ⟨.value (.func f),(x0::xs).toArray,ts⟩,ty,pos,after,none⟩::r) st Q:=fun a w hR=>by
 refine wpList_plain rfl fun K hK=>?_
 obtain⟨η,γ,hI⟩:=hR
 have h0:=ev_sound hI x0
 rw [hp]at h0
 obtain⟨ls',b,g1,g2,g3⟩:=RepV.one_iff.1 h0
 obtain⟨b',us,t,g4,g5,g6,g7⟩:=hI.blks n _ hb
 rw [g2]at g4
 injection g4 with g4
 injection g4 with g4
 injection g4 with g4
 subst g4
 have hlt:=heap_lt g6
 have hglob:GlobOk (own1 b) w:=fun g vs hg=>by
  obtain⟨k1,k2,k3⟩:=hI.globw g vs hg
  refine⟨own1_other (fun e=>?_),k2,k3⟩
  obtain⟨m1,m2,_⟩:=hI.glob g vs hg
  have:=(hI.low g m2 m1).1
  rw [e,g5]at this
  cases this
 have hkb:Kp w w γ (own1 b):=⟨Nat.le_refl _,fun k _ hk=>⟨own1_other (fun e=>by rw [e,g5]at hk;cases hk),rfl⟩⟩
 have hcall:=hs x b t us (xs.map a.eval) w hok hglob ((dtLs_sound g7 hls).kp hkb) g6 (datasO_sound hI g5 ha)
 have hrun:=enter_of (P:=P) hf (a:=a) (w:=w) (args:=x0::xs) (ts:=ts) (dst:=some d) (ty:=ty) (pos:=pos) (after:=after) (g:=none)
 unfold Oper.wp
 rw [hrun]
 show Calls P f ((x0::xs).map a.eval).toArray w _
 rw [List.map_cons,g3]
 refine hcall.mono fun e w' ⟨us',t',he,hv,hbel,hbw,hrep⟩=>?_
 subst he
 have hsz:w.heap.size≤w'.heap.size:=by have:=hbel.size;rwa [putO_size]at this
 have hall:∀k m,γ k=some m→k=b:=fun k m hk=>by
  obtain⟨_,h8,h9⟩:=hI.live k m hk
  obtain⟨bk,hbk⟩:=Option.isSome_iff_exists.1 h9
  have hm:m=n:=onlyB_of hon hbk
  subst hm
  rcases h8 with h8|h8
  ·rw [g2]at h8
   cases h8
   rfl
  ·rw [hb]at h8
   cases h8
 have hkc:Kp w' w' (own1 b) γ:=⟨Nat.le_refl _,fun k _ hk=>⟨by
  cases hg:γ k with
  |none=>rfl
  |some m=>exact absurd (hall k m hg) (own1_none hk),rfl⟩⟩
 have hI2:=hI.turnD n _ ((cs' x).map toPL) hb b g5 w' hbel.os hbel.tape hbel.output hsz (fun k hk hkb=>by rw [hbel.block k hk,putO_other _ hkb]) ⟨b,us',t',g2,g5,hbw,toPLs_sound (hrep.kp hkc)⟩
 exact hK _ _ (h _ _ ⟨η,γ,hI2.put d _ _ hN (rep_mk hv)⟩)
theorem SoundDk.of {f:FuncId}{fn:Func}{c:Code}{α:Type}{ok:α→Prop}{cs:α→List Leaf}{enc:α→List Arg}{cs':α→List Leaf}{out:α→Value}
  (hf:P.funcs[f]?=some fn) (hb:fn.body=some c) (hN:fn.ntmps=N)
  (h:∀x b w,ok x→b<w.heap.size→(enc x).length+1≤N∧
   W P (own1 b) w N (initC ((cs x).map toPL) (enc x)) c (bodyPost P fn (PostDk b w (cs' x) (out x)))):SoundDk P f ok cs enc cs' out:=by
 intro x b t us vs w hok hgl h1 hh hargs
 obtain⟨hl,hW⟩:=h x b w hok (heap_lt hh)
 refine calls_of_wp hf hb (hW _ _ ⟨fun _=>.pointer (some ⟨b,0,none⟩),own1 b,?_⟩)
 have hsz:vs.length=(enc x).length:=hargs.1
 refine {slots:=fun k=>?_,blks:=fun n b' hb'=>?_,live:=fun k n hk=>?_,low:=fun k _ hk=>⟨hk,rfl⟩,os:=rfl,tape:=rfl,output:=rfl,size:=Nat.le_refl _,defers:=rfl,width:=?_,glob:=hgl,pin:=fun _ k ls hk _=>hk,pinA:=PinA.no fun _ fl e s rows hb=>(by simp [getB]at hb)}
 ·show RepV _ _ _ _ (if 0=k then one (.ptr 999 0)else getS (initS 1 (enc x)) k) _
  by_cases e:0=k
  ·subst e
   rw [if_pos rfl]
   refine RepV.one_iff.2 ⟨(cs x).map toPL,b,by simp [getB],rfl,?_⟩
   show((Value.pointer (some ⟨b,0,none⟩)::vs).toArray++Array.replicate (fn.ntmps-(Value.pointer (some ⟨b,0,none⟩)::vs).toArray.size) undef).getD 0 undef=_
   rw [Array.getD_eq_getD_getElem?,Array.getElem?_append_left (by simp)]
   simp
  ·rw [if_neg e]
   refine initS_data (enc x) 1 (fun t=>((Value.pointer (some ⟨b,0,none⟩)::vs).toArray++Array.replicate (fn.ntmps-(Value.pointer (some ⟨b,0,none⟩)::vs).toArray.size) undef).getD t undef) (fun j y hj=>?_) k
   obtain⟨v,k1,k2⟩:=hargs.2 j y hj
   have hlt:j<vs.length:=(gsS k1).1
   have:((Value.pointer (some ⟨b,0,none⟩)::vs).toArray++Array.replicate (fn.ntmps-(Value.pointer (some ⟨b,0,none⟩)::vs).toArray.size) undef).getD (1+j) undef=v:=by
    rw [Array.getD_eq_getD_getElem?,Array.getElem?_append_left (by simp;omega)]
    simp [Nat.add_comm 1 j,k1]
   rw [this]
   exact k2
 ·simp only [getB]at hb'
  split at hb'
  ·rename_i e
   cases hb'
   subst e
   exact⟨b,us,t,rfl,own1_same b,hh,toPLs_sound h1⟩
  ·rw [initS_blk]at hb'
   cases hb'
 ·have:=own1_some hk
  subst this
  have e:n=999:=by rw [own1_same]at hk;cases hk;rfl
  subst e
  exact⟨heap_lt hh,.inl (by simp [hdrBlock]),by simp [getB]⟩
 ·simp
  omega
theorem At.retDk {b:Nat}{fn:Func}{ls:List PL}{cs':List Leaf}{out:Value}(hN:N≤999)(hB:b<w0.heap.size)
  (hb:getB st 999=some (.box ls)) (hx:leafsO st ls=some cs') (hr:resN P st fn.results.toList=some (.comp false [.ro (.sc out)])) (hL:ownC P st 0 fn.results.toList=[]):
  At (own1 b) w0 N st .ret (bodyPost P fn (PostDk b w0 cs' out)):=by
 intro a w ⟨η,γ,h⟩
 obtain⟨b',us,t,g1,g2,g3,g4⟩:=h.blks 999 _ hb
 have hbb:b'=b:=own1_some (h.pin hN b' _ g2 hb)
 subst hbb
 obtain⟨u,h1,h2⟩:=retN_core h hr hL (by rfl) (B:=0) (γr:=fun _=>none) (fun _ _=>rfl) (fun i n hm=>by cases hm)
 obtain⟨l,h3,h4⟩:=h2
 cases h3
 have h4:RepL w (fun _=>none) (.sc out) u:=h4
 cases h4 with
 |sc hone=>
 have hk:∀k,γ k=none→own1 b' k=none:=fun k hk=>own1_other (fun e=>by rw [e,g2]at hk;cases hk)
 have hrep:RepLs w (own1 b') cs' us.toList:=leafsO_sound h hk (fun k m hkm ⟨l,hl,he⟩=>own1_other (fun e=>by
  subst e
  rw [g2]at hkm
  cases hkm
  obtain⟨j,hj⟩:=List.mem_iff_getElem?.1 hl
  obtain⟨u0,_,k2⟩:=g4.2 j l hj
  rcases he with rfl|⟨o,q,rfl⟩
  ·obtain⟨_,fl,e,s,rows,k3⟩:=k2
   rw [hb]at k3
   cases k3
  ·obtain⟨fl,e,s,rows,k3,_⟩:=k2
   rw [hb]at k3
   cases k3)) g4 hx
 refine⟨h.defers,out,h1,us,t,rfl,hone,⟨h.os,h.tape,h.output,by rw [putO_size];exact h.size,fun k hkl=>?_⟩,g3,hrep⟩
 by_cases e:k=b'
 ·subst e
  rw [g3,putO_same _ hkl]
 ·rw [(h.low k hkl (own1_other e)).2,putO_other _ e]
end
section
variable {γ0:Nat→Option Nat}{w0:World}{N:Nat}{st:St}{Q:Exit→Act→World→Prop}
theorem W.frzB {c:Code}(n:Nat){ls:List PL}{xs:List Leaf}{st1:St}(hb:getB st n=some (.box ls):=by exact evsP)(hx:leafsO st ls=some xs:=by exact evsP)(hst:Entry.blk n (.box (xs.map toPL))::Go.Proofs.YtfgkfcfplodaoaaGreatDoor.frz ls st=st1:=by exact evsP)
  (h:W Tryz.prog γ0 w0 N st1 c Q):W Tryz.prog γ0 w0 N st c Q:=fun a w hR=>h a w (hst▸R.frzB hR hb hx)
theorem WL.opDkA {ops:Array Oper}{r:List Oper}{d f n:Nat}{x0:Operand}{xs:List Operand}{ts:Array TypeId}{ty:TypeId}{pos:String}{after:Array Edge}
  {α:Type} {ok:α→Prop} {cs:α→List Leaf} {enc:α→List Arg} {cs':α→List Leaf} {out:α→Value} {ls:List PL} {st1:St}
  (hf:Has Tryz.prog f) (hs:SoundDk Tryz.prog f ok cs enc cs' out) (x:α) (hok:ok x) (hN:d<N:=by decide)
  (hp:ev st x0=one (.ptr n 0):=by exact evcP) (hb:getB st n=some (.box ls):=by exact evcP) (hls:dtLs ls=some (cs x):=by rfl) (hon:onlyB n st=true:=by rfl) (ha:datasO st n xs=some (enc x):=by exact evcP)
  (hst:.slot d (one (.sc (out x)))::.blk n (.box ((cs' x).map toPL))::st=st1:=by rfl)
  (h:WL Tryz.prog γ0 w0 N ops r st1 Q):
  WL Tryz.prog γ0 w0 N ops (⟨some d,.call ⟨.value (.func f),(x0::xs).toArray,ts⟩,ty,pos,after,none⟩::r) st Q:=
 WL.opDk hf hs x hok hN hp hb hls hon ha (by rw [hst];exact h)
theorem At.retDkA {b:Nat}{fn:Func}{ls:List PL}{cs' cs1:List Leaf}{out:Value}{r':Res}{l:List ResultVar}(hl:fn.results.toList=l)(hB:b<w0.heap.size)(hN:N≤999:=by decide)
  (hb:getB st 999=some (.box ls):=by exact evcP) (hx:leafsO st ls=some cs1:=by exact evsP) (hr:resN Tryz.prog st l=some r':=by simp only [resN,compsN,compN,rlsN,rlN,resV];exact evsP) (hL:ownC Tryz.prog st 0 l=[]:=by simp only [ownC,resV];exact evsP)
  (hc:cs1=cs') (he:r'=.comp false [.ro (.sc out)]):
  At (own1 b) w0 N st .ret (bodyPost Tryz.prog fn (PostDk b w0 cs' out)):=by
 subst hl;subst hc;subst he
 exact At.retDk hN hB hb hx hr hL
end
end
section
end
section
open Classical in
abbrev frE (F:Nat→Prop)(w:World):Entry:=.blk 998 (.arr (.fr F (fun k=>w.heap[k]?)) 0 1 [])
section
variable {P:Program}{Γ:Models}{γ0:Nat→Option Nat}{w0:World}{N:Nat}{st st1:St}{a:Act}{w:World}{η:Nat→Value}{γ:Nat→Option Nat}{Q:Exit→Act→World→Prop}
theorem Inv.clrLe (h:Inv γ0 w0 N st a w η γ):∀os:List (Nat×Blk),∃γ',Inv γ0 w0 N (Go.Proofs.YtfgkfcfplodaoaaGreatDoor.clrL os st) a w η γ'∧∀b n,γ' b=some n→γ b=some n
 |[]=>⟨γ,h,fun _ _ h=>h⟩
 |(m,b0)::r=>by
  obtain⟨γ1,h1,h2⟩:=Inv.clrLe h r
  unfold Go.Proofs.YtfgkfcfplodaoaaGreatDoor.clrL Go.Proofs.YtfgkfcfplodaoaaGreatDoor.clr
  split
  ·refine⟨_,h1.drop m,fun b n hb=>h2 b n ?_⟩
   split at hb
   ·cases hb
   ·exact hb
  ·exact⟨γ1,h1,h2⟩
theorem impE_soundH (h:Inv γ0 w0 N st a w η γ){d:Nat}(hN:d<N){r:Res}{w':World}{u:Value}{γr:Nat→Option Nat}{hdr:Nat→Value}(hk:Below w.heap.size w w')
  (hold:∀b,b<w.heap.size→γr b=none→γ b=none) (hnew:∀b k,w.heap.size≤b→γr b=some k→b<w'.heap.size∧AtR r hdr b k) (hr:RepR w.heap.size w' γr hdr r u):R γ0 w0 N (impE st d r) (a.put (some d) u) w':=by
 obtain⟨γ1,h1,hle⟩:=h.clrLe (ownsR d r)
 replace hold:∀b,b<w.heap.size→γr b=none→γ1 b=none:=fun b hb hg=>by
  cases e:γ1 b with
  |none=>rfl
  |some n=>
   have:=hle b n e
   rw [hold b hb hg]at this
   cases this
 obtain⟨η2,γ2,h2,hη,hkr⟩:=h1.imp (ownsR d r) d (fun h9 i=>by omega) w' γr hdr (fun n b hb=>clrL_none hb) hk hold (fun b k hb hg=>⟨(hnew b k hb hg).1,(hnew b k hb hg).2.imp id fun hA b' hb'=>by
  cases r with
  |comp g ls=>
   obtain⟨k',fl,e,s,rows,h3,h4,rfl⟩:=owns_mem hb'
   exact hA fl e s rows (by
    have:k'=k:=by omega
    subst this
    exact h3)
  |tup vs=>
   obtain⟨j,g,ls,h8,hb'⟩:=ownsT_mem hb'
   obtain⟨k',fl,e,s,rows,h3,h4,rfl⟩:=owns_mem hb'
   exact hA fl e s rows ⟨j,k',g,ls,h8,h3,by omega⟩⟩) (fun n b hb=>by
  cases r with
  |comp g ls=>
   obtain⟨k,fl,e,s,rows,h3,h4,h5⟩:=owns_mem hb
   have:∃u,RepRL w.heap.size w' γr hdr (0+k) (.own fl e s rows) u:=by
    cases g with
    |true=>
     obtain⟨us,_,h6⟩:=hr
     obtain⟨u,_,h7⟩:=h6.2 k _ h3
     exact⟨u,h7⟩
    |false=>
     obtain⟨l,rfl,h6⟩:=hr
     cases k with
     |zero=>simp at h3;subst h3;exact⟨_,h6⟩
     |succ k=>simp at h3
   obtain⟨u,h6⟩:=this
   exact⟨0+k,fl,e,s,rows,u,h4,h5,h6⟩
  |tup vs=>
   obtain⟨j,g,ls,h8,hb⟩:=ownsT_mem hb
   obtain⟨k,fl,e,s,rows,h3,h4,h5⟩:=owns_mem hb
   obtain⟨us,_,_,h9⟩:=hr
   obtain⟨u,_,h10⟩:=h9 j g ls h8
   rw [Nat.zero_add]at h4
   have:∃u,RepRL w.heap.size w' γr hdr (64*j+k) (.own fl e s rows) u:=by
    cases g with
    |true=>
     obtain⟨us,_,h6⟩:=h10
     obtain⟨u,_,h7⟩:=h6.2 k _ h3
     exact⟨u,h7⟩
    |false=>
     obtain⟨l,rfl,h6⟩:=h10
     cases k with
     |zero=>simp at h3;subst h3;exact⟨_,h6⟩
     |succ k=>simp at h3
   obtain⟨u,h6⟩:=this
   exact⟨64*j+k,fl,e,s,rows,u,h4,h5,h6⟩)
 refine⟨η2,γ2,h2.put d _ _ hN ?_⟩
 have leaf:∀(i:Nat) (l:RL) (c:Value),RepRL w.heap.size w' γr hdr i l c→(∀fl e s rows,l=.own fl e s rows→(d+1000*i,Blk.arr fl e s rows)∈ownsR d r)→RepP (getB (withB (ownsR d r) (clrL (ownsR d r) st))) η2 γ2 w' (pvRL d i l) c:=by
  intro i l c hl hm
  cases l with
  |ro l=>exact toPL_sound (hl.kp hkr)
  |own fl e s rows=>
   have hm:=hm _ _ _ _ rfl
   refine⟨by rw [hη i _ hm];exact hl.1,?_⟩
   obtain⟨b,hb⟩:=Option.isSome_iff_exists.1 (getB_blks_some (st:=clrL (ownsR d r) st) hm)
   rcases getB_blks _ hb with h5|⟨h5,_⟩
   ·have:∃fl e s rows,b=.arr fl e s rows:=by
     cases r with
     |comp g ls=>obtain⟨k,fl,e,s,rows,_,_,h8⟩:=owns_mem h5;exact⟨fl,e,s,rows,h8⟩
     |tup vs=>
      obtain⟨j,g,ls,_,h5⟩:=ownsT_mem h5
      obtain⟨k,fl,e,s,rows,_,_,h8⟩:=owns_mem h5
      exact⟨fl,e,s,rows,h8⟩
    obtain⟨fl,e,s,rows,rfl⟩:=this
    exact⟨fl,e,s,rows,hb⟩
   ·exact absurd hm (h5 _)
 have comp:∀(i:Nat) (g:Bool) (ls:List RL) (c:Value),RepRC w.heap.size w' γr hdr i g ls c→(∀(k:Nat) fl e s rows,ls[k]?=some (.own fl e s rows)→(d+1000*(i+k),Blk.arr fl e s rows)∈ownsR d r)→RepC (getB (withB (ownsR d r) (clrL (ownsR d r) st))) η2 γ2 w' g (pvs d i ls) c:=by
  intro i g ls c hc hm
  cases g with
  |true=>
   obtain⟨us,rfl,h3,h4⟩:=hc
   refine⟨us,rfl,by rw [h3,pvs_len],fun k p hp=>?_⟩
   obtain⟨l,h5,rfl⟩:=pvs_get hp
   obtain⟨u,h6,h7⟩:=h4 k l h5
   exact⟨u,h6,leaf (i+k) l u h7 (fun fl e s rows e'=>hm k fl e s rows (e'▸h5))⟩
  |false=>
   obtain⟨l,rfl,h3⟩:=hc
   exact⟨pvRL d i l,rfl,leaf i l c h3 (fun fl e s rows e'=>hm 0 fl e s rows (by rw [e'];rfl))⟩
 cases r with
 |comp g ls=>exact comp 0 g ls u hr (fun k fl e s rows hk=>owns_of hk)
 |tup vs=>
  obtain⟨us,rfl,h3,h4⟩:=hr
  refine⟨us,rfl,by rw [h3,pvT_len],fun j g ps hp=>?_⟩
  obtain⟨ls,h5,rfl⟩:=pvT_get hp
  obtain⟨u,h6,h7⟩:=h4 j g ls h5
  refine⟨u,h6,?_⟩
  rw [Nat.zero_add]
  exact comp (64*j) g ls u h7 (fun k fl e s rows hk=>ownsT_of h5 (by rw [Nat.zero_add];exact owns_of hk))
end
end
section
set_option maxHeartbeats 8000000
theorem twoC {α:Type}(a:α)(f:Nat→α):∃J:Nat→α,J 0=a∧∀k,J (k+1)=f k:=⟨fun k=>match k with|0=>a|k+1=>f k,rfl,fun _=>rfl⟩
abbrev TCh:=List TVal×Bool×Bool
def chS (x:TVal)(s:TCh)(v:TVal):TCh:=
 ((if s.2.1=false∧x.1≤v.1 then s.1++[x]else s.1)++(if v.1=x.1 then []else [v]),s.2.1||decide (x.1≤v.1),s.2.2||decide (v.1=x.1))
def chK (x:TVal)(l:List TVal)(k:Nat):TCh:=(l.take k).foldl (chS x) ([],decide (x.2=0),false)
def chEnd (x:TVal)(s:TCh):List TVal:=if s.2.1=false then s.1++[x]else s.1
def chg (l:List TVal)(x:TVal):List TVal:=chEnd x (chK x l l.length)
def chgB (l:List TVal)(x:TVal):Bool:=(chK x l l.length).2.2||!decide (x.2=0)
theorem chK_next (x:TVal){l:List TVal}{k:Nat}(h:k<l.length):chK x l (k+1)=chS x (chK x l k) l[k]:=by
 unfold chK
 rw [List.take_succ_eq_append_getElem h,List.foldl_append]
 rfl
theorem chK_len (x:TVal)(l:List TVal):∀k,(chK x l k).1.length≤2*k
 |0=>by simp [chK]
 |k+1=>by
  have ih:=chK_len x l k
  by_cases h:k<l.length
  ·rw [chK_next x h]
   generalize chK x l k=s at*
   unfold chS
   simp only [List.length_append]
   have h1:(if s.2.1=false∧x.1≤l[k].1 then s.1++[x]else s.1).length≤s.1.length+1:=by split<;>simp
   have h2:(if l[k].1=x.1 then([]:List TVal)else [l[k]]).length≤1:=by split<;>simp
   omega
  ·have:chK x l (k+1)=chK x l k:=by unfold chK;rw [List.take_of_length_le (by omega),List.take_of_length_le (by omega)]
   rw [this]
   omega
theorem chg_len (l:List TVal)(x:TVal):(chg l x).length≤2*l.length+1:=by
 have:=chK_len x l l.length
 unfold chg chEnd
 split
 ·simp;omega
 ·omega
abbrev okChg (x:List TVal×TVal):Prop:=x.1.length≤1048576
abbrev aChg (x:List TVal×TVal):List Arg:=[aL cVal x.1,.val true [.sc (.int .i64 x.2.1),.sc (.int .i64 x.2.2)]]
theorem aChg_inj:∀x y,aChg x=aChg y→x=y:=by
 rintro⟨l,a,b⟩ ⟨l',a',b'⟩ h
 simp at h
 simp [h]
abbrev rChg (l:List TVal)(b:Bool):Res:=.tup [(false,[.own .ft 76 2 (rowsF cVal l)]),rSc (.bool b)]
noncomputable def mChg:=mdl okChg aChg (fun x=>rChg (chg x.1 x.2) (chgB x.1 x.2))
theorem mChg_eq (l:List TVal)(x:TVal)(h:l.length≤1048576):mChg [aL cVal l,.val true [.sc (.int .i64 x.1),.sc (.int .i64 x.2)]]=some (rChg (chg l x) (chgB l x)):=mdl_eq aChg_inj (l,x) h
theorem chg_s:Sound Tryz.prog 95 mChg:=by
 refine Sound.mdl Tryz.func95 rfl Tryz.ntmps95 ?_
 rintro⟨l,a,p⟩ w hl
 refine⟨by simp,?_⟩
 replace hl:l.length≤1048576:=hl
 have hΓ:=eN
 have hlen:=rowsF_len cVal l
 have hnil:rowsF cVal []=[]:=rfl
 refine zJ ?_
 refine W.loopA (fun k=>k≤l.length) (fun k:Nat=>[.slot 0 (vL cVal l),.slot 3 (one (.ptr 3 0)),.blk 3 (.box [.sc (.int .i64 a),.sc (.int .i64 p)]),.slot 6 (one (.all 10)),.blk 10 (.arr .ft 76 2 (rowsF cVal (chK (a,p) l k).1)),.slot 7 (one (.sc (.bool (chK (a,p) l k).2.1))),.slot 8 (one (.sc (.bool (chK (a,p) l k).2.2))),.slot 9 (vI k)]) (fun k=>l.length-k) 0 (Nat.zero_le _) (h:=?_)
 rintro k hk
 have hkl:=chK_len (a,p) l k
 by_cases hlt:k<l.length
 ·have hrow:=val_row hlt
  have hn:=chK_next (a,p) hlt
  generalize l[k]=v at*
  obtain⟨i,q⟩:=v
  generalize chK (a,p) l k=s at*
  obtain⟨o,b1,b2⟩:=s
  dsimp only at hkl⊢
  have e1:=cVal_app o a p
  have e2:=cVal_app o i q
  have e3:=cVal_app (o++[(a,p)]) i q
  have hl1:o.length≤2097152:=by omega
  have hl2:(o++[(a,p)]).length≤2097153:=by rw [List.length_append];simp;omega
  by_cases h1:b1=false
  ·subst h1
   by_cases h2:a≤i
   ·by_cases h3:i=a
    ·have e:chS (a,p) (o,false,b2) (i,q)=(o++[(a,p)],true,true):=by simp [chS,h2,h3]
     rw [e]at hn
     have hn:=Lib.hid hn
     clear e hkl
     subst h3
     refine zR ?_
     refine W.drawB hΓ 12 [[],[0],[0,1],[0,1,2],[0,1,2],[0,1,2,3,4],[0,1,2,3,4,5],[0,1,2,3,4,5,6],[0,1,2],[0,1,2,8],[0,1,2,3,4,5,6,7,8,9],[0,1,2,3,4,5,6,7,8,9,10]] (Es:=?Es5) (rest:=?rest5) (st1:=?st15) ?_
     refine zQ ?_
     refine W.drawB hΓ 8 [[],[],[0,1],[0,1,2],[0,1,2,3],[],[5],[0,1,2,3,4,5,6]] (Es:=?Es7) (rest:=?rest7) (st1:=?st17) ?_
     refine zQ ?_
     refine At.roundA (k+1) (by omega) (by omega) (hs:=?_)
     rw [hn.out]
     exact subP
    ·have e:chS (a,p) (o,false,b2) (i,q)=(o++[(a,p)]++[(i,q)],true,b2):=by simp [chS,h2,h3]
     rw [e]at hn
     have hn:=Lib.hid hn
     clear e hkl
     refine zR ?_
     refine W.drawB hΓ 12 [[],[0],[0,1],[0,1,2],[0,1,2],[0,1,2,3,4],[0,1,2,3,4,5],[0,1,2,3,4,5,6],[0,1,2],[0,1,2,8],[0,1,2,3,4,5,6,7,8,9],[0,1,2,3,4,5,6,7,8,9,10]] (Es:=?Es10) (rest:=?rest10) (st1:=?st110) ?_
     refine zQ ?_
     refine W.drawB hΓ 8 [[],[],[0,1],[0,1,2],[0,1,2,3],[],[5],[0,1,2,3,4,5,6]] (Es:=?Es12) (rest:=?rest12) (st1:=?st112) ?_
     refine zQ ?_
     refine At.roundA (k+1) (by omega) (by omega) (hs:=?_)
     rw [hn.out]
     exact subP
   ·have h3:¬i=a:=by omega
    have e:chS (a,p) (o,false,b2) (i,q)=(o++[(i,q)],false,b2):=by simp [chS,h2,h3]
    rw [e]at hn
    have hn:=Lib.hid hn
    clear e hkl
    refine zR ?_
    refine W.drawB hΓ 12 [[],[0],[0,1],[0,1,2],[0,1,2],[0,1,2,3,4],[0,1,2,3,4,5],[0,1,2,3,4,5,6],[0,1,2],[0,1,2,8],[0,1,2,3,4,5,6,7,8,9],[0,1,2,3,4,5,6,7,8,9,10]] (Es:=?Es15) (rest:=?rest15) (st1:=?st115) ?_
    refine zQ ?_
    refine W.drawB hΓ 8 [[],[],[0,1],[0,1,2],[0,1,2,3],[],[5],[0,1,2,3,4,5,6]] (Es:=?Es17) (rest:=?rest17) (st1:=?st117) ?_
    refine zQ ?_
    refine At.roundA (k+1) (by omega) (by omega) (hs:=?_)
    rw [hn.out]
    exact subP
  ·have h1:b1=true:=by simpa using h1
   subst h1
   by_cases h3:i=a
   ·have e:chS (a,p) (o,true,b2) (i,q)=(o,true,true):=by simp [chS,h3]
    rw [e]at hn
    have hn:=Lib.hid hn
    clear e hkl
    subst h3
    refine zR ?_
    refine W.drawB hΓ 12 [[],[0],[0,1],[0,1,2],[0,1,2],[0,1,2,3,4],[0,1,2,3,4,5],[0,1,2,3,4,5,6],[0,1,2],[0,1,2,8],[0,1,2,3,4,5,6,7,8,9],[0,1,2,3,4,5,6,7,8,9,10]] (Es:=?Es20) (rest:=?rest20) (st1:=?st120) ?_
    refine zQ ?_
    refine W.drawB hΓ 8 [[],[],[0,1],[0,1,2],[0,1,2,3],[],[5],[0,1,2,3,4,5,6]] (Es:=?Es22) (rest:=?rest22) (st1:=?st122) ?_
    refine zQ ?_
    refine At.roundA (k+1) (by omega) (by omega) (hs:=?_)
    rw [hn.out]
    exact subP
   ·have e:chS (a,p) (o,true,b2) (i,q)=(o++[(i,q)],true,b2):=by simp [chS,h3]
    rw [e]at hn
    have hn:=Lib.hid hn
    clear e hkl
    refine zR ?_
    refine W.drawB hΓ 12 [[],[0],[0,1],[0,1,2],[0,1,2],[0,1,2,3,4],[0,1,2,3,4,5],[0,1,2,3,4,5,6],[0,1,2],[0,1,2,8],[0,1,2,3,4,5,6,7,8,9],[0,1,2,3,4,5,6,7,8,9,10]] (Es:=?Es25) (rest:=?rest25) (st1:=?st125) ?_
    refine zQ ?_
    refine W.drawB hΓ 8 [[],[],[0,1],[0,1,2],[0,1,2,3],[],[5],[0,1,2,3,4,5,6]] (Es:=?Es27) (rest:=?rest27) (st1:=?st127) ?_
    refine zQ ?_
    refine At.roundA (k+1) (by omega) (by omega) (hs:=?_)
    rw [hn.out]
    exact subP
 ·have hke:k=l.length:=by omega
  subst hke
  have hg:chg l (a,p)=chEnd (a,p) (chK (a,p) l l.length):=rfl
  have hb:chgB l (a,p)=((chK (a,p) l l.length).2.2||!decide (p=0)):=rfl
  generalize chK (a,p) l l.length=s at*
  obtain⟨o,b1,b2⟩:=s
  dsimp only at hkl hg hb⊢
  have hb:=Lib.hid hb
  have e1:=cVal_app o a p
  have hl1:o.length≤2097152:=by omega
  clear hkl
  cases b1 with
  |false=>
   have eg:chEnd (a,p) (o,false,b2)=o++[(a,p)]:=rfl
   rw [eg]at hg
   have hg:=Lib.hid hg
   cases b2 with
   |true=>
    refine zR ?_
    refine W.drawB hΓ 9 [[],[],[1],[1,2],[1,2,3],[1,2,3,4],[1,2,3,4,5],[0,1,2],[0,1,2,3,4,5,6,7]] (Es:=?Es30) (rest:=?rest30) (st1:=?st130) ?_
    refine zQ ?_
    refine At.retA (by rw [Tryz.results95]) (he:=?_)
    rw [hg.out,hb.out]
    rfl
   |false=>
    by_cases h0:p=0
    ·subst h0
     refine zR ?_
     refine W.drawB hΓ 9 [[],[],[1],[1,2],[1,2,3],[1,2,3,4],[1,2,3,4,5],[0,1,2],[0,1,2,3,4,5,6,7]] (Es:=?Es34) (rest:=?rest34) (st1:=?st134) ?_
     refine zQ ?_
     refine At.retA (by rw [Tryz.results95]) (he:=?_)
     rw [hg.out,hb.out]
     rfl
    ·refine zR ?_
     refine W.drawB hΓ 9 [[],[],[1],[1,2],[1,2,3],[1,2,3,4],[1,2,3,4,5],[0,1,2],[0,1,2,3,4,5,6,7]] (Es:=?Es38) (rest:=?rest38) (st1:=?st138) ?_
     refine zQ ?_
     refine At.retA (by rw [Tryz.results95]) (he:=?_)
     rw [hg.out,hb.out]
     simp [h0]
  |true=>
   have eg:chEnd (a,p) (o,true,b2)=o:=rfl
   rw [eg]at hg
   have hg:=Lib.hid hg
   cases b2 with
   |true=>
    refine zR ?_
    refine W.drawB hΓ 9 [[],[],[1],[1,2],[1,2,3],[1,2,3,4],[1,2,3,4,5],[0,1,2],[0,1,2,3,4,5,6,7]] (Es:=?Es42) (rest:=?rest42) (st1:=?st142) ?_
    refine zQ ?_
    refine At.retA (by rw [Tryz.results95]) (he:=?_)
    rw [hg.out,hb.out]
    rfl
   |false=>
    by_cases h0:p=0
    ·subst h0
     refine zR ?_
     refine W.drawB hΓ 9 [[],[],[1],[1,2],[1,2,3],[1,2,3,4],[1,2,3,4,5],[0,1,2],[0,1,2,3,4,5,6,7]] (Es:=?Es46) (rest:=?rest46) (st1:=?st146) ?_
     refine zQ ?_
     refine At.retA (by rw [Tryz.results95]) (he:=?_)
     rw [hg.out,hb.out]
     rfl
    ·refine zR ?_
     refine W.drawB hΓ 9 [[],[],[1],[1,2],[1,2,3],[1,2,3,4],[1,2,3,4,5],[0,1,2],[0,1,2,3,4,5,6,7]] (Es:=?Es50) (rest:=?rest50) (st1:=?st150) ?_
     refine zQ ?_
     refine At.retA (by rw [Tryz.results95]) (he:=?_)
     rw [hg.out,hb.out]
     simp [h0]
def chV (l:List TVal)(x:TVal):List TVal×Bool:=if valsOk l∧chgB l x=true∧valsOk (chg l x)then(chg l x,true)else(l,false)
abbrev aChV (x:List TVal×TVal):List Arg:=[aL cVal x.1,aL cVal [x.2]]
theorem aChV_inj:∀x y,aChV x=aChV y→x=y:=by
 rintro⟨l,a,b⟩ ⟨l',a',b'⟩ h
 simp at h
 simp [h]
noncomputable def mChV:=mdl okChg aChV (fun x=>rChg (chV x.1 x.2).1 (chV x.1 x.2).2)
theorem mChV_eq (l:List TVal)(x:TVal)(h:l.length≤1048576):mChV [aL cVal l,aL cVal [x]]=some (rChg (chV l x).1 (chV l x).2):=mdl_eq aChV_inj (l,x) h
theorem chV_s:Sound Tryz.prog 42 mChV:=by
 refine Sound.mdl Tryz.func42 rfl Tryz.ntmps42 ?_
 rintro⟨l,a,p⟩ w hl
 refine⟨by simp,?_⟩
 replace hl:l.length≤1048576:=hl
 have hΓ:=env_cons (hsO Tryz.func75) valsS_s (env_cons (hsO Tryz.func95) chg_s env_nil)
 have hlen:=rowsF_len cVal l
 have c1:=mVals_eq l (by omega)
 have hwid:=rowsF_wid (f:=cVal) (s:=2) (fun _=>rfl) l
 have hrw:rowsF cVal [(a,p)]=[[.sc (.int .i64 a),.sc (.int .i64 p)]]:=rfl
 have hrow:(rowsF cVal [(a,p)])[0]?=some [.sc (.int .i64 a),.sc (.int .i64 p)]:=rfl
 by_cases h1:valsOk l
 ·rw [decide_eq_true h1]at c1
  have hl7:l.length≤7:=h1.1.2
  have c2:=mChg_eq l (a,p) hl
  have hgl:=chg_len l (a,p)
  have hv:chV l (a,p)=if chgB l (a,p)=true∧valsOk (chg l (a,p))then(chg l (a,p),true)else(l,false):=by unfold chV;simp only [h1,true_and]
  have c3:=mVals_eq (chg l (a,p)) (by omega)
  dsimp only at c2
  generalize chg l (a,p)=o at*
  generalize chgB l (a,p)=b at*
  obtain⟨J,hJ0,hJs⟩:=twoC (α:=St) [.slot 8 (vI ((0:Nat):Int)),.slot 7 (one (.all 11)),.slot 6 (one (.all 11)),.blk 11 (.arr .ft 76 2 (rowsF cVal l)),.slot 0 (vL cVal l),.slot 1 (vL cVal [(a,p)])] (fun k=>[.slot 8 (vI ((k+1:Nat):Int)),.slot 7 (one (.all 31)),.blk 31 (.arr .ft 76 2 (rowsF cVal o)),.slot 0 (vL cVal l),.slot 1 (vL cVal [(a,p)])])
  have hj1:=hJs 0
  rw [Nat.zero_add]at hj1
  refine zJ ?_
  refine W.loopA (fun k=>k≤1∧(k=1→b=true)) J (fun k=>1-k) 0 ⟨Nat.zero_le _,fun h=>by cases h⟩ (hs:=?_) (h:=?_)
  ·rw [hJ0]
   exact subP
  rintro k ⟨hk,hkb⟩
  rcases(by omega:k=0∨k=1)with rfl|rfl
  ·clear hkb
   rw [hJ0]
   cases b with
   |false=>
    rw [if_neg (by simp)]at hv
    refine zR ?_
    refine At.retA (by rw [Tryz.results42]) (he:=?_)
    rw [hv]
   |true=>
    refine zR ?_
    refine At.roundA 1 ⟨by omega,fun _=>rfl⟩ (by omega) (hs:=?_)
    rw [hj1]
    exact subP
  ·rw [hj1]
   cases b with
   |false=>cases hkb rfl
   |true=>
    clear hkb
    by_cases h2:valsOk o
    ·rw [decide_eq_true h2]at c3
     rw [if_pos ⟨rfl,h2⟩]at hv
     refine zR ?_
     refine At.retA (by rw [Tryz.results42]) (he:=?_)
     rw [hv]
    ·rw [decide_eq_false h2]at c3
     rw [if_neg (by simp [h2])]at hv
     refine zR ?_
     refine At.retA (by rw [Tryz.results42]) (he:=?_)
     rw [hv]
 ·have hv:chV l (a,p)=(l,false):=if_neg (by simp [h1])
  rw [decide_eq_false h1]at c1
  refine zJ ?_
  refine At.retA (by rw [Tryz.results42]) (he:=?_)
  rw [hv]
end
end Go.Proofs.YtfgkfcfplodaoaaGreatDoor
