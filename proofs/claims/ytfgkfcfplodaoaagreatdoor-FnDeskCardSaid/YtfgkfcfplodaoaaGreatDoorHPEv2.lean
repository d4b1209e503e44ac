
import Derived.Test.YtfgkfcfplodaoaaGreatDoorHPEv1
import Derived.Laws.Tables
set_option linter.unusedSimpArgs false
set_option linter.unusedVariables false
set_option maxRecDepth 100000
namespace Go.Proofs.YtfgkfcfplodaoaaGreatDoor
open Go Go.RowKit
section PH
def upd {α:Type}(f:Nat→α)(x:Nat)(v:α):Nat→α:=fun y=>if y=x then v else f y
theorem upd_same {α:Type}(f:Nat→α)(x:Nat)(v:α):upd f x v x=v:=if_pos rfl
theorem upd_other {α:Type}(f:Nat→α){x y:Nat}(v:α)(h:y≠x):upd f x v y=f y:=if_neg h
def alike:Blk→Blk→Prop
 |.box _,.box _=>True
 |.arr fl e s rows,.arr fl' e' s' rows'=>e'=e∧s'=s∧rows'.length=rows.length∧(fl.nst=true→fl'.nst=true)
 |_,_=>False
theorem getB_hit (n:Nat)(b:Blk)(st:St):getB (.blk n b::st) n=some b:=if_pos rfl
def clr (d:Nat)(st:St):St:=if(getB st d).isSome then .kill d::st else st
theorem clr_none (d:Nat)(st:St):getB (clr d st) d=none:=by
 unfold clr
 split
 ·simp [getB]
 ·rename_i h
  cases hb:getB st d with
  |none=>rfl
  |some b=>rw [hb]at h;exact absurd rfl h
section
variable {γ0:Nat→Option Nat}{w0:World}{N:Nat}{st:St}{a:Act}{w:World}{η:Nat→Value}{γ:Nat→Option Nat}
theorem Inv.clr (h:Inv γ0 w0 N st a w η γ)(d:Nat):∃γ',Inv γ0 w0 N (clr d st) a w η γ':=by
 unfold Go.Proofs.YtfgkfcfplodaoaaGreatDoor.clr
 split
 ·exact⟨_,h.drop d⟩
 ·exact⟨γ,h⟩
theorem RepB.kp_box {hb hb':Nat→Option Blk}{η η':Nat→Value}{γ γ':Nat→Option Nat}{w w':World}{m:Nat}{ls:List PL}(hn:Nm hb hb' η η' fun _=>True)(hk:Kp w w' γ γ')(h:RepB hb η γ w m (.box ls))
  (he:η' m=η m) (hg:∀b,γ b=some m→γ' b=some m∧w'.heap[b]?=w.heap[b]?):RepB hb' η' γ' w' m (.box ls):=by
 obtain⟨b,us,t,h1,h2,h3,h4⟩:=h
 exact⟨b,us,t,he.trans h1,(hg b h2).1,(hg b h2).2.trans h3,h4.kp hn hk⟩
theorem RepB.kill_box {hb hb':Nat→Option Blk}{η η':Nat→Value}{γ γ':Nat→Option Nat}{w w':World}{m n:Nat}{ls:List PL}(hn:Nm hb hb' η η' (· ≠n))(hk:Kp w w' γ γ')(h:RepB hb η γ w m (.box ls))
  (he:η' m=η m) (hg:∀b,γ b=some m→γ' b=some m∧w'.heap[b]?=w.heap[b]?):RepB hb' η' γ' w' m (.box (ls.map (PL.kill n))):=by
 obtain⟨b,us,t,h1,h2,h3,h4⟩:=h
 exact⟨b,us,t,he.trans h1,(hg b h2).1,(hg b h2).2.trans h3,h4.kill hn hk⟩
theorem RepB.kp_arr {hb hb':Nat→Option Blk}{η η':Nat→Value}{γ γ':Nat→Option Nat}{w w':World}{m:Nat}{fl:Fl}{e s:Nat}{rows:List (List Leaf)}(hk:Kp w w' γ γ')(h:RepB hb η γ w m (.arr fl e s rows))
  (he:η' m=η m) (hg:∀b,γ b=some m→γ' b=some m∧w'.heap[b]?=w.heap[b]?):RepB hb' η' γ' w' m (.arr fl e s rows):=by
 obtain⟨xs,h1,h2,h3,h4,h5⟩:=h
 refine⟨xs,?_,by rw [he];exact h2.kp (hk.vw hg),h3,?_,by rw [he];exact h5.kpW (fun b hb=>(hg b hb).1) fun b hb _=>(hg b hb).2⟩
 ·rw [he]
  exact owns_same h1 (fun b hb=>(hg b (h4 b hb)).2)
 ·rw [he]
  exact fun b hb=>(hg b (h4 b hb)).1
theorem Inv.new (h:Inv γ0 w0 N st a w η γ)(d:Nat)(hdN:d<N)(hd:getB st d=none)(b:Blk)(us:Array Value)(t:TypeId)(hdr:Value)(hh:hdrBlock hdr=some w.heap.size)
  (hB:Nm (getB st) (getB (.blk d b::st)) η (upd η d hdr) (fun _=>True)→Kp w (w.alloc (.cells us t)) γ (upd γ w.heap.size (some d))→RepB (getB (.blk d b::st)) (upd η d hdr) (upd γ w.heap.size (some d)) (w.alloc (.cells us t)) d b):
  Inv γ0 w0 N (.blk d b::st) a (w.alloc (.cells us t)) (upd η d hdr) (upd γ w.heap.size (some d)):=by
 have hold:∀k,k<w.heap.size→(w.alloc (.cells us t)).heap[k]?=w.heap[k]?:=fun k hk=>by
  simp only [World.alloc,Array.getElem?_push]
  rw [if_neg (by omega)]
 have hk:Kp w (w.alloc (.cells us t)) γ (upd γ w.heap.size (some d)):=⟨by simp,fun k hk hg=>⟨by rw [upd_other _ _ (by omega)];exact hg,hold k hk⟩⟩
 have hne:∀m b',getB st m=some b'→m≠d:=fun m b' hm e=>by rw [e,hd]at hm;cases hm
 have hget:∀m,m≠d→getB (.blk d b::st) m=getB st m:=fun m hm=>if_neg (fun e=>hm e.symm)
 have hn:Nm (getB st) (getB (.blk d b::st)) η (upd η d hdr) (fun _=>True):=by
  intro m b' _ hb
  have hm:=hne m b' hb
  refine⟨upd_other _ _ hm,?_⟩
  cases b' with
  |arr fl e s rows=>exact⟨fl,rows,by rw [hget m hm];exact hb,rfl⟩
  |box ls=>exact⟨ls,by rw [hget m hm];exact hb⟩
 have hB:=hB hn hk
 have hg:∀m b0,m≠d→γ b0=some m→(upd γ w.heap.size (some d)) b0=some m∧(w.alloc (.cells us t)).heap[b0]?=w.heap[b0]?:=fun m b0 hm hb0=>by
  have hlt:=(h.live b0 m hb0).1
  exact⟨by rw [upd_other _ _ (by omega)];exact hb0,hold b0 hlt⟩
 refine {h with slots:=fun t=>(h.slots t).kp hn hk,blks:=fun m b' hb=>?_,live:=fun b0 m hb=>?_,low:=fun b0 hb hg0=>?_,size:=by have:=h.size;simp;omega,os:=h.os,tape:=h.tape,output:=h.output,pin:=fun h9 b0 ls hb hbx=>?_,pinA:=h.pinA.to fun h9 fl e s rows hbx=>⟨upd_other _ _ (by omega),fl,rows,by rw [hget 999 (by omega)]at hbx;exact hbx,rfl⟩}
 ·by_cases hm:m=d
  ·subst hm
   rw [getB_hit]at hb
   cases hb
   exact hB
  ·rw [hget m hm]at hb
   have h1:=h.blks m b' hb
   cases b' with
   |box ls=>exact RepB.kp_box hn hk h1 (upd_other _ _ hm) (hg m · hm)
   |arr fl e s rows=>exact RepB.kp_arr hk h1 (upd_other _ _ hm) (hg m · hm)
 ·by_cases hs:b0=w.heap.size
  ·subst hs
   rw [upd_same]at hb
   cases hb
   exact⟨by simp,.inl (by rw [upd_same];exact hh),by simp [getB]⟩
  ·rw [upd_other _ _ hs]at hb
   obtain⟨h1,h2,h3⟩:=h.live b0 m hb
   obtain⟨b',hb'⟩:=Option.isSome_iff_exists.1 h3
   have hm:=hne m b' hb'
   exact⟨by simp;omega,by rw [upd_other _ _ hm,hget m hm];exact h2,by rw [hget m hm,hb'];rfl⟩
 ·have:=h.size
  rw [upd_other _ _ (by omega),hold b0 (by omega)]
  exact h.low b0 hb hg0
 ·by_cases hs:b0=w.heap.size
  ·subst hs
   rw [upd_same]at hb
   cases hb
   omega
  ·rw [upd_other _ _ hs]at hb
   have hm:(999:Nat)≠d:=by omega
   rw [hget 999 hm]at hbx
   exact h.pin h9 b0 ls hb hbx
theorem Inv.turn (h:Inv γ0 w0 N st a w η γ)(n:Nat)(b0 b1:Blk)(hb0:getB st n=some b0)(g:Nat)(hg:γ g=some n)(cs:Array Value)
  (hsame:alike b0 b1)
  (hB:Nm (getB st) (getB (.blk n b1::st)) η η (fun _=>True)→Kp w (w.setRow g cs) γ γ→RepB (getB (.blk n b1::st)) η γ (w.setRow g cs) n b1):
  Inv γ0 w0 N (.blk n b1::st) a (w.setRow g cs) η γ:=by
 have hold:∀k,k≠g→(w.setRow g cs).heap[k]?=w.heap[k]?:=fun k hk=>setRow_other w g k cs hk
 have hk:Kp w (w.setRow g cs) γ γ:=⟨by simp,fun k hk hgk=>⟨hgk,hold k (fun e=>by rw [e,hg]at hgk;cases hgk)⟩⟩
 have hget:∀m,m≠n→getB (.blk n b1::st) m=getB st m:=fun m hm=>if_neg (fun e=>hm e.symm)
 have hn:Nm (getB st) (getB (.blk n b1::st)) η η (fun _=>True):=by
  intro m b' _ hb
  refine⟨rfl,?_⟩
  by_cases hm:m=n
  ·subst hm
   rw [hb0]at hb
   cases hb
   cases b0 with
   |arr fl e s rows=>
    cases b1 with
    |arr fl' e' s' rows'=>
     obtain⟨rfl,rfl,h3,_⟩:=hsame
     exact⟨fl',rows',if_pos rfl,h3⟩
    |box ls'=>exact hsame.elim
   |box ls=>
    cases b1 with
    |arr fl e s rows=>exact hsame.elim
    |box ls'=>exact⟨ls',if_pos rfl⟩
  ·cases b' with
   |arr fl e s rows=>exact⟨fl,rows,by rw [hget m hm];exact hb,rfl⟩
   |box ls=>exact⟨ls,by rw [hget m hm];exact hb⟩
 have hB:=hB hn hk
 have hgm:∀m b0,m≠n→γ b0=some m→γ b0=some m∧(w.setRow g cs).heap[b0]?=w.heap[b0]?:=fun m b0 hm hb0=>⟨hb0,hold b0 (fun e=>by rw [e,hg]at hb0;cases hb0;exact hm rfl)⟩
 refine {h with slots:=fun t=>(h.slots t).kp hn hk,blks:=fun m b' hb=>?_,live:=fun k0 m hb=>?_,low:=fun b0 hb hg0=>?_,size:=by have:=h.size;simp;omega,os:=h.os,tape:=h.tape,output:=h.output,pin:=fun h9 b2 ls hb hbx=>?_,pinA:=h.pinA.to fun h9 fl e s rows hbx=>⟨rfl,?_⟩}
 ·by_cases hm:m=n
  ·subst hm
   rw [getB_hit]at hb
   cases hb
   exact hB
  ·rw [hget m hm]at hb
   have h1:=h.blks m b' hb
   cases b' with
   |box ls=>exact RepB.kp_box hn hk h1 rfl (hgm m · hm)
   |arr fl e s rows=>exact RepB.kp_arr hk h1 rfl (hgm m · hm)
 ·obtain⟨h1,h2,h3⟩:=h.live k0 m hb
  refine⟨by simp;omega,h2.imp id fun h2=>?_,?_⟩
  ·by_cases hm:m=n
   ·subst hm
    rw [getB_hit]
    rw [hb0]at h2
    cases b0 with
    |box ls=>cases h2
    |arr fl e s rows=>
     cases b1 with
     |box ls=>exact hsame.elim
     |arr fl' e' s' rows'=>exact hsame.2.2.2 h2
   ·rw [hget m hm];exact h2
  ·by_cases hm:m=n
   ·subst hm;simp [getB]
   ·rw [hget m hm];exact h3
 ·obtain⟨h1,h2⟩:=h.low b0 hb hg0
  exact⟨h1,by rw [hold b0 (fun e=>by rw [e,hg]at h1;cases h1)];exact h2⟩
 ·by_cases hm:(999:Nat)=n
  ·subst hm
   rw [getB_hit]at hbx
   cases hbx
   cases b0 with
   |box ls0=>exact h.pin h9 b2 ls0 hb hb0
   |arr fl e s rows=>exact hsame.elim
  ·rw [hget 999 hm]at hbx
   exact h.pin h9 b2 ls hb hbx
 ·by_cases hm:(999:Nat)=n
  ·subst hm
   rw [getB_hit]at hbx
   cases hbx
   cases b0 with
   |box ls0=>exact hsame.elim
   |arr fl0 e0 s0 rows0=>
    obtain⟨rfl,rfl,h3,_⟩:=hsame
    exact⟨_,_,hb0,h3⟩
  ·rw [hget 999 hm]at hbx
   exact⟨_,_,hbx,rfl⟩
theorem Inv.repl (h:Inv γ0 w0 N st a w η γ)(n:Nat)(hn9:N≤999→n≠999)(b1:Blk)(w':World)(hdr:Value)(γ':Nat→Option Nat)
  (hsize:w.heap.size≤w'.heap.size) (hold:∀k,k<w.heap.size→γ k≠some n→w'.heap[k]?=w.heap[k]?∧γ' k=γ k)
  (hnew:∀k m,γ' k=some m→(m=n∧k<w'.heap.size∧(hdrBlock hdr=some k∨nstB (some b1)=true)∧(k<w.heap.size→γ k=some n))∨(m≠n∧γ k=some m))
  (hos:w'.os=w.os) (htape:w'.tape=w.tape) (hout:w'.output=w.output)
  (hb1:∀ls,b1≠.box ls) (hB:Kp w w' γ γ'→RepB (getB (.blk n b1::.kill n::st)) (upd η n hdr) γ' w' n b1):
  Inv γ0 w0 N (.blk n b1::.kill n::st) a w' (upd η n hdr) γ':=by
 have hk:Kp w w' γ γ':=⟨hsize,fun k hk hg=>by
  obtain⟨h1,h2⟩:=hold k hk (by rw [hg];simp)
  exact⟨h2.trans hg,h1⟩⟩
 have hget:∀m,m≠n→getB (.blk n b1::.kill n::st) m=(getB st m).map (Blk.kill n):=fun m hm=>by
  simp only [getB,if_neg (fun e:n=m=>hm e.symm)]
 have hn:Nm (getB st) (getB (.blk n b1::.kill n::st)) η (upd η n hdr) (· ≠n):=by
  intro m b' hm hb
  refine⟨upd_other _ _ hm,?_⟩
  cases b' with
  |arr fl e s rows=>exact⟨fl,rows,by rw [hget m hm,hb];rfl,rfl⟩
  |box ls=>exact⟨ls.map (PL.kill n),by rw [hget m hm,hb];rfl⟩
 have hB:=hB hk
 have hgm:∀m k,m≠n→γ k=some m→γ' k=some m∧w'.heap[k]?=w.heap[k]?:=fun m k hm hb=>by
  obtain⟨h1,h2⟩:=hold k (h.live k m hb).1 (by rw [hb];intro e;cases e;exact hm rfl)
  exact⟨h2.trans hb,h1⟩
 refine {h with slots:=fun t=>(h.slots t).kill hn hk,blks:=fun m b' hb=>?_,live:=fun k m hb=>?_,low:=fun k hb hg0=>?_,size:=Nat.le_trans h.size hsize,os:=hos.trans h.os,tape:=htape.trans h.tape,output:=hout.trans h.output,pin:=fun h9 k ls hb hbx=>?_,pinA:=h.pinA.to fun h9 fl e s rows hbx=>⟨upd_other _ _ fun e=>hn9 h9 e.symm,?_⟩}
 ·by_cases hm:m=n
  ·subst hm
   rw [getB_hit]at hb
   cases hb
   exact hB
  ·rw [hget m hm]at hb
   obtain⟨b0,hb0,rfl⟩:=oms hb
   have h1:=h.blks m b0 hb0
   cases b0 with
   |box ls=>exact RepB.kill_box hn hk h1 (upd_other _ _ hm) (hgm m · hm)
   |arr fl e s rows=>exact RepB.kp_arr hk h1 (upd_other _ _ hm) (hgm m · hm)
 ·rcases hnew k m hb with⟨rfl,h1,h2,_⟩|⟨hm,h1⟩
  ·exact⟨h1,by rw [upd_same,getB_hit];exact h2,by simp [getB]⟩
  ·obtain⟨h2,h3,h4⟩:=h.live k m h1
   refine⟨Nat.lt_of_lt_of_le h2 hsize,by rw [upd_other _ _ hm,hget m hm];exact h3.imp id nstB_kill,?_⟩
   rw [hget m hm]
   cases hb':getB st m with
   |none=>rw [hb']at h4;cases h4
   |some b=>rfl
 ·obtain⟨h1,h2⟩:=h.low k hb hg0
  have hlt:k<w.heap.size:=Nat.lt_of_lt_of_le hb h.size
  obtain⟨h3,h4⟩:=hold k hlt (by rw [h1];simp)
  exact⟨h4.trans h1,h3.trans h2⟩
 ·by_cases hm:(999:Nat)=n
  ·subst hm
   rw [getB_hit]at hbx
   cases hbx
   exact absurd rfl (hb1 ls)
  ·rw [hget 999 hm]at hbx
   obtain⟨b0,hb0,hk0⟩:=oms hbx
   rcases hnew k 999 hb with⟨e,_⟩|⟨_,h1⟩
   ·exact absurd e hm
   ·cases b0 with
    |box ls0=>exact h.pin h9 k ls0 h1 hb0
    |arr fl e s rows=>cases hk0
 ·rw [hget 999 fun e=>hn9 h9 e.symm]at hbx
  obtain⟨b0,hb0,hk0⟩:=oms hbx
  cases b0 with
  |box ls0=>cases hk0
  |arr fl0 e0 s0 rows0=>
   cases hk0
   exact⟨_,_,hb0,rfl⟩
end
end PH
section PI
def Leaf.isSc:Leaf→Bool
 |.sc _=>true
 |.sl _=>false
def flatB (rows:List (List Leaf)):Bool:=rows.all fun row=>row.all Leaf.isSc
def flB (rows:List (List Leaf)):Fl:=Fl.and .ft (flatB rows)
theorem flB_nst (rows:List (List Leaf)):(flB rows).nst=false:=by
 unfold flB
 cases flatB rows<;>rfl
theorem and_nst {f:Fl}(h:f.nst=false)(b:Bool):(f.and b).nst=false:=by
 cases b with
 |true=>exact h
 |false=>rfl
theorem nst_fr {f:Fl}(h:f.nst=false){S:Nat→Prop}{q:Nat→Option Obj}:f≠.fr S q:=fun e=>by rw [e]at h;cases h
theorem nst_nd {f:Fl}(h:f.nst=false):f≠.nd:=fun e=>by rw [e]at h;cases h
theorem flB_fl {rows:List (List Leaf)}(h:flB rows=.ft):flatB rows=true:=by
 unfold flB at h
 cases hf:flatB rows with
 |true=>rfl
 |false=>rw [hf]at h;cases h
theorem and_fl {f:Fl}{b:Bool}(h:f.and b=.ft):f=.ft∧b=true:=by
 cases b with
 |true=>exact⟨h,rfl⟩
 |false=>cases h
theorem isFl_iff {f:Fl}(h:f.isFl=true):f=.ft:=by cases f<;>first|rfl|cases h
theorem flatB_iff {rows:List (List Leaf)}(h:flatB rows=true):∀row∈rows,∀l∈row,∃v,l=.sc v:=by
 intro row hr l hl
 have h1:=List.all_eq_true.1 h row hr
 have h2:=List.all_eq_true.1 h1 l hl
 cases l with
 |sc v=>exact⟨v,rfl⟩
 |sl rows=>cases h2
theorem flatB_map {α:Type}(f:α→List Leaf)(l:List α)(h:∀x,(f x).all Leaf.isSc=true):flatB (l.map f)=true:=by
 unfold flatB
 rw [List.all_map]
 exact List.all_eq_true.2 fun x _=>h x
def leafO (st:St):PL→Option Leaf
 |.sc v=>some (.sc v)
 |.nil=>some (.sl [])
 |.sl rows=>some (.sl rows)
 |.all n=>match getB st n with
  |some (.arr _ _ _ rows)=>some (.sl rows)
  |_=>none
 |.ref n off len=>match getB st n with
  |some (.arr _ _ _ rows)=>some (.sl ((rows.drop off).take len))
  |_=>none
 |.xl _ rows=>some (.sl rows)
 |_=>none
def leafsO (st:St):List PL→Option (List Leaf)
 |[]=>some []
 |l::r=>match leafO st l,leafsO st r with
  |some x,some y=>some (x::y)
  |_,_=>none
def frz:List PL→St→St
 |[],st=>st
 |.all n::r,st=>.kill n::frz r st
 |.ref n _ _::r,st=>.kill n::frz r st
 |_::r,st=>frz r st
section
variable {P:Program}{γ0:Nat→Option Nat}{w0:World}{N:Nat}{st:St}{a:Act}{w:World}{η:Nat→Value}{γ γ':Nat→Option Nat}
theorem Inv.frz (h:Inv γ0 w0 N st a w η γ):∀ls:List PL,∃γ',Inv γ0 w0 N (frz ls st) a w η γ'∧∀b n,γ' b=some n→γ b=some n∧∀l∈ls,(∀m,l=.all m→m≠n)∧(∀m o k,l=.ref m o k→m≠n)
 |[]=>⟨γ,h,fun b n hb=>⟨hb,fun l hl=>absurd hl (by simp)⟩⟩
 |l::r=>by
  obtain⟨γ1,h1,h2⟩:=Inv.frz h r
  have key:∀n,(∀m,l=.all m→m=n)→(∀m o k,l=.ref m o k→m=n)→Go.Proofs.YtfgkfcfplodaoaaGreatDoor.frz (l::r) st=.kill n::Go.Proofs.YtfgkfcfplodaoaaGreatDoor.frz r st→∃γ',Inv γ0 w0 N (Go.Proofs.YtfgkfcfplodaoaaGreatDoor.frz (l::r) st) a w η γ'∧∀b n,γ' b=some n→γ b=some n∧∀l'∈l::r,(∀m,l'=.all m→m≠n)∧(∀m o k,l'=.ref m o k→m≠n):=by
   intro n e1 e2 e3
   rw [e3]
   refine⟨_,h1.drop n,fun b k hb=>?_⟩
   have hb':γ1 b≠some n∧γ1 b=some k:=by
    by_cases e:γ1 b=some n
    ·simp [e]at hb
    ·simp only [e,if_false]at hb
     exact⟨e,hb⟩
   obtain⟨h3,h4⟩:=h2 b k hb'.2
   refine⟨h3,fun l' hl'=>?_⟩
   rcases List.mem_cons.1 hl' with rfl|hl'
   ·exact⟨fun m e=>by rw [e1 m e];intro e';subst e';exact hb'.1 hb'.2,fun m o k' e=>by rw [e2 m o k' e];intro e';subst e';exact hb'.1 hb'.2⟩
   ·exact h4 l' hl'
  have triv:(∀m,l≠.all m)→(∀m o k,l≠.ref m o k)→Go.Proofs.YtfgkfcfplodaoaaGreatDoor.frz (l::r) st=Go.Proofs.YtfgkfcfplodaoaaGreatDoor.frz r st→∃γ',Inv γ0 w0 N (Go.Proofs.YtfgkfcfplodaoaaGreatDoor.frz (l::r) st) a w η γ'∧∀b n,γ' b=some n→γ b=some n∧∀l'∈l::r,(∀m,l'=.all m→m≠n)∧(∀m o k,l'=.ref m o k→m≠n):=by
   intro e1 e2 e3
   rw [e3]
   refine⟨γ1,h1,fun b n hb=>?_⟩
   obtain⟨h3,h4⟩:=h2 b n hb
   refine⟨h3,fun l' hl'=>?_⟩
   rcases List.mem_cons.1 hl' with rfl|hl'
   ·exact⟨fun m e=>absurd e (e1 m),fun m o k e=>absurd e (e2 m o k)⟩
   ·exact h4 l' hl'
  cases l with
  |all n=>exact key n (fun m e=>by cases e;rfl) (fun m o k e=>by cases e) rfl
  |ref n o k=>exact key n (fun m e=>by cases e) (fun m o k e=>by cases e;rfl) rfl
  |_=>exact triv (by simp) (by simp) rfl
theorem arr_rows {n:Nat}{fl:Fl}{e s:Nat}{rows:List (List Leaf)}{hb:Nat→Option Blk}(hB:RepB hb η γ w n (.arr fl e s rows))(hk:∀b,γ b=none→γ' b=none)(hg:∀b,γ b=some n→γ' b=none)
  (off len cap:Nat) (hol:off+len≤rows.length) (hc:len≤cap) (hm:cap≤maxLen) (b c:Nat) (hη:η n=.slice (some ⟨b,0,none⟩) rows.length c):
  RepL w γ' (.sl ((rows.drop off).take len)) (.slice (some ⟨b,off*s,none⟩) len cap):=by
 have hlen:((rows.drop off).take len).length=len:=by simp;omega
 have hB':=hB
 obtain⟨xs,⟨hxl,ho⟩,hr,hs,hgo,_⟩:=hB
 have hgb:γ b=some n:=hgo b (by rw [hη];rfl)
 have hlt:b<w.heap.size:=by
  rw [hη]at ho
  rcases ho with⟨ho,_⟩|⟨g,cap',cur,hg',_,hh,_⟩
  ·cases ho
  ·cases hg';exact heap_lt hh
 have hget:∀(i:Nat) (row:List Leaf),((rows.drop off).take len)[i]?=some row→rows[off+i]?=some row:=by
  intro i row hi
  rw [List.getElem?_take]at hi
  split at hi
  ·rw [List.getElem?_drop]at hi;exact hi
  ·cases hi
 have hkp:Kp w w (vw fl n (η n) γ) γ':=Kp.vw0 hk hg
 have hval:∀(i j:Nat),∃v:Value,∀row l,rows[i]?=some row→row[j]?=some l→w.cell? ⟨b,i*s+j,none⟩=some v∧RepL w γ' l v:=by
  intro i j
  cases hi:rows[i]? with
  |none=>exact⟨default,fun row l h=>by cases h⟩
  |some row=>
   obtain⟨us,h4,h5,h6⟩:=arr_row hB' hη hi
   cases hj:row[j]? with
   |none=>exact⟨default,fun row' l h h'=>by cases h;rw [hj]at h';cases h'⟩
   |some l=>
    obtain⟨u,h7,h8⟩:=h4.2 j l hj
    refine⟨u,fun row' l' h h'=>?_⟩
    cases h
    rw [hj]at h'
    cases h'
    exact⟨h5 j u h7,h8.kp hkp⟩
 obtain⟨val,hv⟩:∃val:Nat→Nat→Value,∀i j row l,rows[i]?=some row→row[j]?=some l→w.cell? ⟨b,i*s+j,none⟩=some (val i j)∧RepL w γ' l (val i j):=⟨fun i j=>(hval i j).choose,fun i j=>(hval i j).choose_spec⟩
 have:=RepL.sl (w:=w) (γ:=γ') (rows:=(rows.drop off).take len) (b:=b) (off:=off*s) (s:=s) (cap:=cap) (fun i j=>val (off+i) j) (hg b hgb) hlt (by rw [hlen];exact hc) hm
  (fun row hr=>hs row (List.mem_of_mem_drop (List.mem_of_mem_take hr)))
  (fun i row j l hi hj=>by
   have:=(hv (off+i) j row l (hget i row hi) hj).1
   rw [Nat.add_mul]at this
   exact this)
  (fun i row j l hi hj=>(hv (off+i) j row l (hget i row hi) hj).2)
 rw [hlen]at this
 exact this
theorem leafO_sound (h:Inv γ0 w0 N st a w η γ)(hk:∀b,γ b=none→γ' b=none){l:PL}{x:Leaf}{u:Value}(hg:∀b n,γ b=some n→(l=.all n∨∃o k,l=.ref n o k)→γ' b=none)(hr:RepP (getB st) η γ w l u)(hx:leafO st l=some x):RepL w γ' x u:=by
 have hkp:Kp w w γ γ':=⟨Nat.le_refl _,fun b _ hb=>⟨hk b hb,rfl⟩⟩
 unfold leafO at hx
 split at hx
 ·cases hx;obtain⟨rfl,h1⟩:=hr;exact .sc h1
 ·cases hx;cases hr;exact .emp (Nat.zero_le _)
 ·cases hx;exact RepL.kp hkp hr
 ·rename_i n
  split at hx
  ·rename_i fl e s rows hbx
   cases hx
   obtain⟨rfl,_⟩:=hr
   have hB:=h.blks n _ hbx
   obtain⟨xs,⟨hxl,ho⟩,_⟩:=id hB
   rcases ho with⟨ho,hz⟩|⟨g,cap,cur,hg',_,hh,h1,h2,_⟩
   ·have:rows=[]:=List.length_eq_zero_iff.1 hz
    subst this
    rw [ho]
    exact .emp (Nat.zero_le _)
   ·have:=arr_rows hB hk (fun b hb=>hg b n hb (.inl rfl)) 0 rows.length cap (by omega) h1 h2 g cap hg'
    rw [hg']
    simpa using this
  ·cases hx
 ·rename_i n off len
  split at hx
  ·rename_i fl e s rows hbx
   cases hx
   obtain⟨fl1,e1,s1,rows1,h1,h2,h3⟩:=hr
   rw [hbx]at h1
   cases h1
   rcases h3 with⟨_,rfl,rfl⟩|⟨b,c,cap,h4,rfl,h5,h6,_⟩
   ·simp only [List.take_zero]
    exact .emp (Nat.zero_le _)
   ·exact arr_rows (h.blks n _ hbx) hk (fun b hb=>hg b n hb (.inr ⟨off,len,rfl⟩)) off len cap h2 h5 h6 b c h4
  ·cases hx
 ·cases hx;exact RepL.kp hkp hr.2
 ·cases hx
theorem leafsO_sound (h:Inv γ0 w0 N st a w η γ)(hk:∀b,γ b=none→γ' b=none):∀{ls:List PL} {xs:List Leaf} {us:List Value} (_:∀b n,γ b=some n→(∃l∈ls,l=.all n∨∃o k,l=.ref n o k)→γ' b=none) (_:RepPs (getB st) η γ w ls us) (_:leafsO st ls=some xs),RepLs w γ' xs us
 |[],xs,us,hg,hr,hx=>by
  simp only [leafsO,Option.some.injEq]at hx
  subst hx
  exact⟨by rw [hr.1];rfl,fun j l hj=>by simp at hj⟩
 |l::r,xs,us,hg,hr,hx=>by
  unfold leafsO at hx
  split at hx
  ·rename_i x y h1 h2
   cases hx
   have hlen:=hr.1
   cases us with
   |nil=>simp at hlen
   |cons u us=>
    obtain⟨u',h3,h4⟩:=hr.2 0 l rfl
    cases h3
    have ih:=leafsO_sound h hk (ls:=r) (xs:=y) (us:=us) (fun b n hb ⟨l',hl',e⟩=>hg b n hb ⟨l',List.mem_cons_of_mem _ hl',e⟩) ⟨by simpa using hlen,fun j l' hj=>by
     have:=hr.2 (j+1) l' (by simpa using hj)
     simpa using this⟩ h2
    have h5:=leafO_sound h hk (fun b n hb e=>hg b n hb ⟨l,List.mem_cons_self,e⟩) h4 h1
    refine⟨by simp [ih.1],fun j l' hj=>?_⟩
    cases j with
    |zero=>simp at hj;subst hj;exact⟨u,rfl,h5⟩
    |succ j=>
     obtain⟨u',h6,h7⟩:=ih.2 j l' (by simpa using hj)
     exact⟨u',by simpa using h6,h7⟩
  ·cases hx
end
end PI
section PIb
def noRef:List PL→Bool
 |[]=>true
 |.all _::_=>false
 |.ref _ _ _::_=>false
 |_::r=>noRef r
def hasAll (n:Nat):List PL→Bool
 |[]=>false
 |.all m::r=>m==n||hasAll n r
 |_::r=>hasAll n r
def flatAt (st:St)(n:Nat):Bool:=match getB st n with
 |some (.arr fl _ _ _)=>fl.isFl
 |_=>false
def nstOk (st:St)(d:Nat):List PL→Bool
 |[]=>true
 |.sc _::r=>nstOk st d r
 |.nil::r=>nstOk st d r
 |.all n::r=>flatAt st n&&n !=d&&!hasAll n r&&nstOk st d r
 |_::_=>false
def absL:List PL→St→St
 |[],st=>st
 |.all n::r,st=>.kill n::absL r st
 |_::r,st=>absL r st
theorem hasAll_iff {n:Nat}:∀{ls:List PL},hasAll n ls=true↔PL.all n∈ls
 |[]=>⟨fun h=>(by cases h),fun h=>(by cases h)⟩
 |l::r=>by
  have ih:=hasAll_iff (n:=n) (ls:=r)
  have key:hasAll n (l::r)=hasAll n r→l≠.all n→(hasAll n (l::r)=true↔PL.all n∈l::r):=fun h1 h2=>by
   rw [h1,ih]
   exact⟨fun h=>List.mem_cons_of_mem _ h,fun h=>(List.mem_cons.1 h).resolve_left fun e=>h2 e.symm⟩
  cases l with
  |all m=>
   by_cases hm:m=n
   ·subst hm
    exact⟨fun _=>List.mem_cons_self,fun _=>by show(m==m||hasAll m r)=true;rw [beq_self_eq_true];rfl⟩
   ·refine key ?_ fun e=>hm (by cases e;rfl)
    show(m==n||hasAll n r)=hasAll n r
    rw [beq_eq_false_iff_ne.2 hm,Bool.false_or]
  |_=>exact key rfl fun e=>by cases e
section
variable {P:Program}{γ0:Nat→Option Nat}{w0:World}{N:Nat}{st:St}{a:Act}{w:World}{η:Nat→Value}{γ γ':Nat→Option Nat}
theorem nstOk_get {d:Nat}:∀{ls:List PL} (_:nstOk st d ls=true) (j:Nat) (l:PL) (_:ls[j]?=some l),(∃v,l=.sc v)∨l=.nil∨∃n e s rows,l=.all n∧getB st n=some (.arr .ft e s rows)∧n≠d
 |[],_,j,l,h=>by simp at h
 |x::r,ho,j,l,h=>by
  cases j with
  |zero=>
   simp only [List.getElem?_cons_zero,Option.some.injEq]at h
   subst h
   cases x with
   |sc v=>exact .inl ⟨v,rfl⟩
   |nil=>exact .inr (.inl rfl)
   |all n=>
    simp only [nstOk,Bool.and_eq_true,bne_iff_ne,ne_eq]at ho
    obtain⟨⟨⟨h1,h2⟩,_⟩,_⟩:=ho
    unfold flatAt at h1
    split at h1
    ·rename_i fl e s rows hb
     have:=isFl_iff h1
     subst this
     exact .inr (.inr ⟨n,e,s,rows,rfl,hb,h2⟩)
    ·cases h1
   |_=>cases ho
  |succ j=>
   refine nstOk_get (ls:=r) ?_ j l (by simpa using h)
   cases x<;>simp only [nstOk,Bool.and_eq_true]at ho<;>first|exact ho|exact ho.2|cases ho
theorem nstOk_two {d:Nat}:∀{ls:List PL} (_:nstOk st d ls=true) {i j n:Nat} (_:i≠j) (_:ls[i]?=some (.all n)),ls[j]?≠some (.all n)
 |[],_,i,j,n,_,h=>by simp at h
 |x::r,ho,i,j,n,hne,h=>by
  have hr:nstOk st d r=true:=by
   cases x<;>simp only [nstOk,Bool.and_eq_true]at ho<;>first|exact ho|exact ho.2|cases ho
  intro h2
  cases i with
  |zero=>
   cases j with
   |zero=>exact hne rfl
   |succ j=>
    simp only [List.getElem?_cons_zero,Option.some.injEq]at h
    subst h
    simp only [nstOk,Bool.and_eq_true,Bool.not_eq_true']at ho
    have h3:hasAll n r=true:=hasAll_iff.2 (List.mem_of_getElem? (by simpa using h2))
    rw [ho.1.2]at h3
    cases h3
  |succ i=>
   cases j with
   |zero=>
    simp only [List.getElem?_cons_zero,Option.some.injEq]at h2
    subst h2
    simp only [nstOk,Bool.and_eq_true,Bool.not_eq_true']at ho
    have h3:hasAll n r=true:=hasAll_iff.2 (List.mem_of_getElem? (by simpa using h))
    rw [ho.1.2]at h3
    cases h3
   |succ j=>exact nstOk_two (i:=i) (j:=j) hr (fun e=>hne (by rw [e])) (by simpa using h) (by simpa using h2)
theorem getB_kill_arr {k d:Nat}{fl:Fl}{e s:Nat}{rows:List (List Leaf)}(hkd:k≠d)(hd:getB st d=some (.arr fl e s rows)):getB (.kill k::st) d=some (.arr fl e s rows):=by
 simp only [getB,if_neg hkd,hd]
 rfl
theorem Inv.absorb (h:Inv γ0 w0 N st a w η γ){k d:Nat}{fl:Fl}{e s:Nat}{rows:List (List Leaf)}(hkd:k≠d)(hd:getB st d=some (.arr fl e s rows))(hf:fl.nst=true):
  Inv γ0 w0 N (.kill k::st) a w η (fun b=>if γ b=some k then some d else γ b):=by
 have hk:Kp w w γ (fun b=>if γ b=some k then some d else γ b):=⟨Nat.le_refl _,fun b _ hg=>⟨by simp [hg],rfl⟩⟩
 have hn:Nm (getB st) (getB (.kill k::st)) η η (· ≠k):=by
  intro m b hm hb
  refine⟨rfl,?_⟩
  have hne:¬k=m:=fun e=>hm e.symm
  cases b with
  |arr fl e s rows=>exact⟨fl,rows,by simp only [getB,if_neg hne,hb,Option.map_some,Blk.kill],rfl⟩
  |box ls=>exact⟨ls.map (PL.kill k),by simp only [getB,if_neg hne,hb,Option.map_some,Blk.kill]⟩
 have hgd:=getB_kill_arr hkd hd
 refine {h with slots:=fun t=>(h.slots t).kill hn hk,blks:=fun m b hb=>?_,live:=fun b m hb=>?_,low:=fun b hb hg=>⟨by simp [(h.low b hb hg).1],(h.low b hb hg).2⟩,pin:=fun h9 b ls hb hbx=>?_,pinA:=h.pinA.to fun h9 fl e s rows hbx=>⟨rfl,?_⟩}
 ·by_cases hne:k=m
  ·simp only [getB,if_pos hne]at hb;cases hb
  ·simp only [getB,if_neg hne]at hb
   obtain⟨b0,hb0,rfl⟩:=oms hb
   have hne':¬m=k:=fun e=>hne e.symm
   have h1:=h.blks m b0 hb0
   cases b0 with
   |box ls=>
    obtain⟨b,us,t,h2,h3,h4,h5⟩:=h1
    exact⟨b,us,t,h2,by simp [h3,hne'],h4,h5.kill hn hk⟩
   |arr fl e s rows=>
    obtain⟨xs,h2,h3,h4,h5,h6⟩:=h1
    exact⟨xs,h2,h3.kp (hk.vw fun b hb=>⟨by simp [hb,hne'],rfl⟩),h4,fun b hb=>by simp [h5 b hb,hne'],h6.kp fun b hb=>by simp [hb,hne']⟩
 ·by_cases hg:γ b=some k
  ·simp only [hg,if_true]at hb
   injection hb with hb
   subst hb
   exact⟨(h.live b k hg).1,.inr (by rw [hgd];exact hf),by rw [hgd];rfl⟩
  ·simp only [hg,if_false]at hb
   obtain⟨h1,h2,h3⟩:=h.live b m hb
   have hne:¬k=m:=fun e=>hg (e▸hb)
   refine⟨h1,h2.imp id fun h2=>?_,?_⟩
   ·simp only [getB,if_neg hne]
    exact nstB_kill h2
   ·simp only [getB,if_neg hne]
    cases hgb:getB st m with
    |none=>rw [hgb]at h3;cases h3
    |some b=>rfl
 ·by_cases hg:γ b=some k
  ·simp only [hg,if_true]at hb
   injection hb with hb
   subst hb
   rw [hgd]at hbx
   cases hbx
  ·simp only [hg,if_false]at hb
   have hne:¬k=999:=fun e=>hg (e▸hb)
   simp only [getB,if_neg hne]at hbx
   obtain⟨b0,hb0,hk0⟩:=oms hbx
   cases b0 with
   |box ls0=>exact h.pin h9 b ls0 hb hb0
   |arr fl e s rows=>cases hk0
 ·by_cases hne:k=999
  ·simp only [getB,if_pos hne]at hbx;cases hbx
  ·simp only [getB,if_neg hne]at hbx
   obtain⟨b0,hb0,hk0⟩:=oms hbx
   cases b0 with
   |box ls0=>cases hk0
   |arr fl0 e0 s0 rows0=>
    cases hk0
    exact⟨_,_,hb0,rfl⟩
theorem Inv.absL (h:Inv γ0 w0 N st a w η γ){d:Nat}{fl:Fl}{e s:Nat}{rows:List (List Leaf)}(hd:getB st d=some (.arr fl e s rows))(hf:fl.nst=true):∀(ls:List PL) (_:∀n,PL.all n∈ls→n≠d),
  ∃γ',Inv γ0 w0 N (absL ls st) a w η γ'∧getB (absL ls st) d=some (.arr fl e s rows)∧(∀b,γ b=none→γ' b=none)∧(∀b m,γ b=some m→γ' b=some (if hasAll m ls=true then d else m))
 |[],_=>⟨γ,h,hd,fun b hb=>hb,fun b m hb=>by simp [hasAll,hb]⟩
 |l::r,hne=>by
  obtain⟨γ1,h1,h2,h3,h4⟩:=Inv.absL h hd hf r fun n hn=>hne n (List.mem_cons_of_mem _ hn)
  have triv:Go.Proofs.YtfgkfcfplodaoaaGreatDoor.absL (l::r) st=Go.Proofs.YtfgkfcfplodaoaaGreatDoor.absL r st→(∀m,hasAll m (l::r)=hasAll m r)→∃γ',Inv γ0 w0 N (Go.Proofs.YtfgkfcfplodaoaaGreatDoor.absL (l::r) st) a w η γ'∧getB (Go.Proofs.YtfgkfcfplodaoaaGreatDoor.absL (l::r) st) d=some (.arr fl e s rows)∧(∀b,γ b=none→γ' b=none)∧(∀b m,γ b=some m→γ' b=some (if hasAll m (l::r)=true then d else m)):=by
   intro e1 e2
   rw [e1]
   exact⟨γ1,h1,h2,h3,fun b m hb=>by rw [e2];exact h4 b m hb⟩
  cases l with
  |all n=>
   have hnd:=hne n List.mem_cons_self
   refine⟨_,h1.absorb hnd h2 hf,getB_kill_arr hnd h2,fun b hb=>by simp [h3 b hb],fun b m hb=>?_⟩
   have h5:=h4 b m hb
   by_cases hm:hasAll m r=true
   ·rw [if_pos hm]at h5
    simp [h5,hasAll,hm]
   ·rw [if_neg hm]at h5
    by_cases hnm:n=m
    ·subst hnm
     simp [h5,hasAll]
    ·have:¬m=n:=fun e=>hnm e.symm
     simp [h5,hasAll,hm,hnm,this]
  |_=>exact triv rfl fun m=>rfl
theorem leafsO_get:∀{ls:List PL} {xs:List Leaf} (_:leafsO st ls=some xs),xs.length=ls.length∧∀(j:Nat) (l:PL),ls[j]?=some l→∃x,xs[j]?=some x∧leafO st l=some x
 |[],xs,h=>by
  simp only [leafsO,Option.some.injEq]at h
  subst h
  exact⟨rfl,fun j l hj=>by simp at hj⟩
 |l::r,xs,h=>by
  unfold leafsO at h
  split at h
  ·rename_i x y h1 h2
   cases h
   obtain⟨h3,h4⟩:=leafsO_get h2
   refine⟨by simp [h3],fun j l' hj=>?_⟩
   cases j with
   |zero=>
    simp only [List.getElem?_cons_zero,Option.some.injEq]at hj
    subst hj
    exact⟨x,rfl,h1⟩
   |succ j=>
    obtain⟨x',h5,h6⟩:=h4 j l' (by simpa using hj)
    exact⟨x',by simpa using h5,h6⟩
  ·cases h
theorem RepL.flat {γ1 γ2:Nat→Option Nat}{rows:List (List Leaf)}{v:Value}(h:RepL w γ1 (.sl rows) v)(hf:∀row∈rows,∀l∈row,∃v,l=Leaf.sc v)(hb:∀b,hdrBlock v=some b→γ2 b=none):RepL w γ2 (.sl rows) v:=by
 cases h with
 |emp hc=>exact .emp hc
 |sl val g1 g2 g3 g4 g5 g6 g7=>
  refine .sl val (hb _ rfl) g2 g3 g4 g5 g6 fun i row j l hi hj=>?_
  obtain⟨v,rfl⟩:=hf row (List.mem_of_getElem? hi) l (List.mem_of_getElem? hj)
  have:=g7 i row j _ hi hj
  cases this with
  |sc h=>exact .sc h
theorem flat_leaf (h:Inv γ0 w0 N st a w η γ){n e s:Nat}{rows:List (List Leaf)}(hb:getB st n=some (.arr .ft e s rows)){γ2:Nat→Option Nat}(hg:∀b,γ b=some n→γ2 b=none):RepL w γ2 (.sl rows) (η n)∧∀b,hdrBlock (η n)=some b→γ b=some n∧∃cs t,w.heap[b]?=some (.cells cs t (0,0)):=by
 have hB:=h.blks n _ hb
 obtain⟨xs,⟨hxl,ho⟩,hr,hs,hgo,hfl,_⟩:=hB
 have hh:∀b,hdrBlock (η n)=some b→γ b=some n∧∃cs t,w.heap[b]?=some (.cells cs t (0,0)):=fun b hb'=>by
  rcases ho with⟨ho,_⟩|⟨g,cap,cur,hg',_,hcs,_⟩
  ·rw [ho]at hb';cases hb'
  ·rw [hg']at hb'
   cases hb'
   exact⟨hgo g (by rw [hg'];rfl),_,_,hcs⟩
 have h1:RepL w (fun b=>if γ b=some n then none else γ b) (.sl rows) (η n):=leafO_sound h (fun b hb=>by simp [hb]) (fun b m hb' he=>by
  rcases he with he|⟨o,k,he⟩
  ·cases he;simp [hb']
  ·cases he) (l:=.all n) ⟨rfl,_,_,_,_,hb⟩ (by simp [leafO,hb])
 exact⟨h1.flat (hfl rfl) fun b hb=>hg b (hh b hb).1,hh⟩
theorem nst_leafs (h:Inv γ0 w0 N st a w η γ){d:Nat}{ls:List PL}{xs:List Leaf}{us:List Value}(hr:RepPs (getB st) η γ w ls us)(hx:leafsO st ls=some xs)(hok:nstOk st d ls=true){γ2:Nat→Option Nat}{hd:Value}
  (hg:∀b m,γ b=some m→hasAll m ls=true→γ2 b=some d∧hd.ownBlock≠some b):
  RepLs w (vw .nd d hd γ2) xs us∧Dis w γ2 d hd xs us∧∀(i:Nat) (r:List (List Leaf)) (u:Value) (b:Nat),xs[i]?=some (.sl r)→us[i]?=some u→hdrBlock u=some b→∃m,hasAll m ls=true∧γ b=some m:=by
 obtain⟨hxl,hxg⟩:=leafsO_get hx
 have key:∀(j:Nat) (l:PL),ls[j]?=some l→∃x u,xs[j]?=some x∧us[j]?=some u∧RepL w (vw .nd d hd γ2) x u∧∀r b,x=.sl r→hdrBlock u=some b→∃m,l=.all m∧γ b=some m∧∃cs t,w.heap[b]?=some (.cells cs t (0,0)):=by
  intro j l hj
  obtain⟨x,h1,h2⟩:=hxg j l hj
  obtain⟨u,h3,h4⟩:=hr.2 j l hj
  refine⟨x,u,h1,h3,?_⟩
  rcases nstOk_get hok j l hj with⟨v,rfl⟩|rfl|⟨n,e,s,rows,rfl,hb,hnd⟩
  ·cases h2
   obtain⟨rfl,h5⟩:=h4
   exact⟨.sc h5,fun r b e=>by cases e⟩
  ·cases h2
   cases h4
   exact⟨.emp (Nat.zero_le _),fun r b _ e=>by cases e⟩
  ·simp only [leafO,hb,Option.some.injEq]at h2
   subst h2
   obtain⟨rfl,_⟩:=h4
   have hmem:hasAll n ls=true:=hasAll_iff.2 (List.mem_of_getElem? hj)
   obtain⟨h5,h6⟩:=flat_leaf h hb (γ2:=vw .nd d hd γ2) (fun b hb=>by
    obtain⟨h7,h8⟩:=hg b n hb hmem
    simp [vw,Fl.nst,h7,h8])
   exact⟨h5,fun r b _ hb=>⟨n,rfl,(h6 b hb).1,(h6 b hb).2⟩⟩
 have back:∀(j:Nat) (x:Leaf),xs[j]?=some x→∃l,ls[j]?=some l:=fun j x hj=>by
  have:j<ls.length:=by rw [←hxl];exact(gsS hj).1
  exact⟨_,gsE this⟩
 refine⟨⟨by rw [hr.1,hxl],fun j x hj=>?_⟩,⟨fun i r u b h1 h2 h3=>?_,fun i j r r' u u' b hne h1 h2 h3 h4 h5 h6=>?_⟩,fun i r u b h1 h2 h3=>?_⟩
 ·obtain⟨l,hl⟩:=back j x hj
  obtain⟨x',u,h1,h2,h3,_⟩:=key j l hl
  rw [hj]at h1
  cases h1
  exact⟨u,h2,h3⟩
 ·obtain⟨l,hl⟩:=back i _ h1
  obtain⟨x',u',g1,g2,_,g4⟩:=key i l hl
  rw [h1]at g1
  cases g1
  rw [h2]at g2
  cases g2
  obtain⟨m,rfl,g5,g6⟩:=g4 r b rfl h3
  obtain⟨g7,g8⟩:=hg b m g5 (hasAll_iff.2 (List.mem_of_getElem? hl))
  exact⟨g7,g8,g6⟩
 ·obtain⟨l,hl⟩:=back i _ h1
  obtain⟨l',hl'⟩:=back j _ h2
  obtain⟨x',u1,g1,g2,_,g4⟩:=key i l hl
  obtain⟨x'',u2,k1,k2,_,k4⟩:=key j l' hl'
  rw [h1]at g1
  cases g1
  rw [h3]at g2
  cases g2
  rw [h2]at k1
  cases k1
  rw [h4]at k2
  cases k2
  obtain⟨m,rfl,g5,_⟩:=g4 r b rfl h5
  obtain⟨m',rfl,k5,_⟩:=k4 r' b rfl h6
  rw [g5]at k5
  injection k5 with k5
  subst k5
  exact nstOk_two hok hne hl hl'
 ·obtain⟨l,hl⟩:=back i _ h1
  obtain⟨x',u',g1,g2,_,g4⟩:=key i l hl
  rw [h1]at g1
  cases g1
  rw [h2]at g2
  cases g2
  obtain⟨m,rfl,g5,_⟩:=g4 r b rfl h3
  exact⟨m,hasAll_iff.2 (List.mem_of_getElem? hl),g5⟩
theorem Inv.nilB (h:Inv γ0 w0 N st a w η γ){d:Nat}(fl:Fl)(hfr:∀S q,fl≠.fr S q)(e s:Nat)(hd9:N≤999→d≠999)(hd:getB st d=none):Inv γ0 w0 N (.blk d (.arr fl e s [])::st) a w (upd η d (.slice none 0 0)) γ:=by
 have hget:∀m,m≠d→getB (.blk d (.arr fl e s [])::st) m=getB st m:=fun m hm=>if_neg (fun e=>hm e.symm)
 have hne:∀m b',getB st m=some b'→m≠d:=fun m b' hm e=>by rw [e,hd]at hm;cases hm
 have hnm:Nm (getB st) (getB (.blk d (.arr fl e s [])::st)) η (upd η d (.slice none 0 0)) (fun _=>True):=by
  intro m b' _ hb
  have hm:=hne m b' hb
  refine⟨upd_other _ _ hm,?_⟩
  cases b' with
  |arr fl e s rows=>exact⟨fl,rows,by rw [hget m hm];exact hb,rfl⟩
  |box ls=>exact⟨ls,by rw [hget m hm];exact hb⟩
 have hk:=Kp.refl w γ
 refine {h with slots:=fun k=>(h.slots k).kp hnm hk,blks:=fun m b' hb=>?_,live:=fun b m hb=>?_,pin:=fun h9 b ls hb hbx=>?_,pinA:=h.pinA.to fun h9 fl e s rows hbx=>⟨upd_other _ _ fun e=>hd9 h9 e.symm,fl,rows,by rw [←hget 999 fun e=>hd9 h9 e.symm];exact hbx,rfl⟩}
 ·by_cases hm:m=d
  ·subst hm
   rw [getB_hit]at hb
   cases hb
   refine⟨[],by rw [upd_same];exact World.ownsRow_nil w 0 e s,⟨rfl,fun j l hj=>by simp at hj⟩,fun row hr=>absurd hr (by simp),fun b hb=>?_,⟨fun _ row hr=>absurd hr (by simp),fun _=>⟨fun i r u b h1=>by simp at h1,fun i j r r' u u' b _ h1=>by simp at h1⟩,fun S q e=>absurd e (hfr S q)⟩⟩
   rw [upd_same]at hb
   cases hb
  ·rw [hget m hm]at hb
   have h1:=h.blks m b' hb
   cases b' with
   |box ls=>exact RepB.kp_box hnm hk h1 (upd_other _ _ hm) (fun b hb=>⟨hb,rfl⟩)
   |arr fl e s rows=>exact RepB.kp_arr hk h1 (upd_other _ _ hm) (fun b hb=>⟨hb,rfl⟩)
 ·obtain⟨h1,h2,h3⟩:=h.live b m hb
  obtain⟨b',hb'⟩:=Option.isSome_iff_exists.1 h3
  have hm:=hne m b' hb'
  rw [hget m hm]
  exact⟨h1,by rw [upd_other _ _ hm];exact h2,h3⟩
 ·by_cases hm:(999:Nat)=d
  ·subst hm
   rw [getB_hit]at hbx
   cases hbx
  ·rw [hget 999 hm]at hbx
   exact h.pin h9 b ls hb hbx
theorem Inv.same (h:Inv γ0 w0 N st a w η γ){n:Nat}{b:Blk}(hb:getB st n=some b):Inv γ0 w0 N (.blk n b::st) a w η γ:=by
 have e1:getB (.blk n b::st)=getB st:=funext fun m=>by
  by_cases hm:n=m
  ·subst hm
   rw [getB_hit,hb]
  ·exact if_neg hm
 refine {h with slots:=fun k=>?_,blks:=fun m b' hb'=>?_,live:=fun b' m hb'=>?_,pin:=fun h9 b' ls hb' hbx=>?_,pinA:=h.pinA.to fun h9 fl e s rows' hbx=>⟨rfl,?_⟩}
 ·rw [e1];exact h.slots k
 ·rw [e1]at hb'⊢;exact h.blks m b' hb'
 ·rw [e1];exact h.live b' m hb'
 ·rw [e1]at hbx;exact h.pin h9 b' ls hb' hbx
 ·rw [e1]at hbx;exact⟨_,_,hbx,rfl⟩
theorem Inv.toNd (h:Inv γ0 w0 N st a w η γ){n e s:Nat}{rows:List (List Leaf)}(hb:getB st n=some (.arr .ft e s rows)):Inv γ0 w0 N (.blk n (.arr .nd e s rows)::st) a w η γ:=by
 have hget:∀m,m≠n→getB (.blk n (.arr .nd e s rows)::st) m=getB st m:=fun m hm=>if_neg (fun e=>hm e.symm)
 have hk:=Kp.refl w γ
 have hnm:Nm (getB st) (getB (.blk n (.arr .nd e s rows)::st)) η η (fun _=>True):=by
  intro m b' _ hb'
  refine⟨rfl,?_⟩
  by_cases hm:m=n
  ·subst hm
   rw [hb]at hb'
   cases hb'
   exact⟨.nd,rows,getB_hit _ _ _,rfl⟩
  ·cases b' with
   |arr fl e s rows=>exact⟨fl,rows,by rw [hget m hm];exact hb',rfl⟩
   |box ls=>exact⟨ls,by rw [hget m hm];exact hb'⟩
 refine {h with slots:=fun k=>(h.slots k).kp hnm hk,blks:=fun m b' hb'=>?_,live:=fun b m hb'=>?_,pin:=fun h9 b ls hb' hbx=>?_,pinA:=h.pinA.to fun h9 fl e s rows' hbx=>⟨rfl,?_⟩}
 ·by_cases hm:m=n
  ·subst hm
   rw [getB_hit]at hb'
   cases hb'
   obtain⟨xs,h1,h2,h3,h4,h5⟩:=h.blks m _ hb
   have hsc:∀l∈rows.flatten,∃v,l=Leaf.sc v:=fun l hl=>by
    obtain⟨row,hr,hlr⟩:=List.mem_flatten.1 hl
    exact h5.1 rfl row hr l hlr
   have hno:∀(i:Nat) (r:List (List Leaf)),rows.flatten[i]?≠some (.sl r):=fun i r hi=>by
    obtain⟨v,hv⟩:=hsc _ (List.mem_of_getElem? hi)
    cases hv
   refine⟨xs,h1,⟨h2.1,fun j l hj=>?_⟩,h3,h4,⟨fun e=>(by cases e),fun _=>⟨fun i r u b h1=>absurd h1 (hno i r),fun i j r r' u u' b _ h1=>absurd h1 (hno i r)⟩,fun _ _ e=>by cases e⟩⟩
   obtain⟨u,h6,h7⟩:=h2.2 j l hj
   obtain⟨v,rfl⟩:=hsc l (List.mem_of_getElem? hj)
   refine⟨u,h6,?_⟩
   cases h7 with
   |sc h8=>exact .sc h8
  ·rw [hget m hm]at hb'
   have h1:=h.blks m b' hb'
   cases b' with
   |box ls=>exact RepB.kp_box hnm hk h1 rfl (fun b hb=>⟨hb,rfl⟩)
   |arr fl e s rows=>exact RepB.kp_arr hk h1 rfl (fun b hb=>⟨hb,rfl⟩)
 ·obtain⟨h1,h2,h3⟩:=h.live b m hb'
  by_cases hm:m=n
  ·subst hm
   exact⟨h1,.inr (by rw [getB_hit];rfl),by rw [getB_hit];rfl⟩
  ·rw [hget m hm]
   exact⟨h1,h2,h3⟩
 ·by_cases hm:(999:Nat)=n
  ·subst hm
   rw [getB_hit]at hbx
   cases hbx
  ·rw [hget 999 hm]at hbx
   exact h.pin h9 b ls hb' hbx
 ·by_cases hm:(999:Nat)=n
  ·subst hm
   rw [getB_hit]at hbx
   cases hbx
   exact⟨_,_,hb,rfl⟩
  ·rw [hget 999 hm]at hbx
   exact⟨_,_,hbx,rfl⟩
end
end PIb
section PJ
def allocE (P:Program)(st:St)(d:Nat)(t:TypeId):Option St:=
 match zeroT P t with
 |some z=>some (.slot d (one (.ptr d 0))::.blk d (.box (z.cells.toList.map cl))::clr d st)
 |none=>none
def boxE (st:St)(d:Nat)(x:Operand):Option St:=
 match ev (clr d st) x with
 |.comp _ ls=>if ls.all PL.live then some (.slot d (one (.ptr d 0))::.blk d (.box ls)::clr d st)else none
 |_=>none
def rowsO (st:St)(s:Nat):Nat→List (Nat×PV)→Option (List (List Leaf)×List PL)
 |_,[]=>some ([],[])
 |k,(i,.comp _ ls)::r=>if i=k∧ls.length=s∧ls.all PL.live=true then
   match leafsO st ls,rowsO st s (k+1) r with
   |some row,some (rows,all)=>some (row::rows,ls++all)
   |_,_=>none
  else none
 |_,_=>none
def litE (P:Program)(st:St)(d:Nat)(t:TypeId)(len:Nat)(parts:List (Nat×Operand)):Option St:=
 match elT P t with
 |some e=>match szT P e,zeroT P e with
  |some s,some z=>match rowsO (clr d st) s 0 (parts.map fun p=>(p.1,ev (clr d st) p.2))with
   |some (rows,all)=>if rows.length=len∧z.cells.size=s∧0<s∧len*s≤16777216 then
     (if noRef all=true∨¬len=1 then some (.slot d (one (.all d))::.blk d (.arr (flB rows) e s rows)::frz all (clr d st))
     else some (.slot d (one (.lit d))::.blk d (.box all)::clr d st))else none
   |none=>none
  |_,_=>none
 |none=>none
section
variable {P:Program}{γ0:Nat→Option Nat}{w0:World}{N:Nat}{st:St}{a:Act}{w:World}{η:Nat→Value}{γ γ':Nat→Option Nat}
theorem Inv.var (h:Inv γ0 w0 N st a w η γ){d:Nat}(hN:d<N)(hd:getB st d=none){ls:List PL}{us:List Value}(hr:RepPs (getB st) η γ w ls us)(t:TypeId):
  R γ0 w0 N (.slot d (one (.ptr d 0))::.blk d (.box ls)::st) (a.put (some d) (.pointer (some ⟨w.heap.size,0,none⟩))) (w.alloc (.cells us.toArray t)):=by
 have h1:=h.new d hN hd (.box ls) us.toArray t (.pointer (some ⟨w.heap.size,0,none⟩)) rfl (fun hn hk=>
  ⟨w.heap.size,us.toArray,t,upd_same _ _ _,upd_same _ _ _,heap_alloc_new w _,by simpa using hr.kp hn hk⟩)
 exact⟨_,_,h1.put d _ _ hN (RepV.one_iff.2 ⟨ls,w.heap.size,getB_hit _ _ _,upd_same _ _ _,rfl⟩)⟩
theorem allocE_sound (h:Inv γ0 w0 N st a w η γ){d:Nat}(hN:d<N){t:TypeId}{st':St}(he:allocE P st d t=some st'):
  ∃u w',(Instr.alloc t true (.tuple #[])).run P w=.ok u w'∧R γ0 w0 N st' (a.put (some d) u) w':=by
 unfold allocE at he
 split at he
 ·rename_i z hz
  cases he
  obtain⟨i,hi,hz⟩:=Option.bind_eq_some_iff.1 hz
  obtain⟨γ',h'⟩:=h.clr d
  refine⟨.pointer (some ⟨w.heap.size,0,none⟩),w.alloc (.cells z.cells t),?_,?_⟩
  ·simp [Instr.alloc,zeroValue,typeInfo,hi,hz,newVar,newRow,newObj,Sem.run]
  ·have hr:RepPs (getB (clr d st)) η γ' w (z.cells.toList.map cl) z.cells.toList:=by
    refine⟨by simp,fun j l hj=>?_⟩
    rw [List.getElem?_map]at hj
    obtain⟨u,h1,rfl⟩:=oms hj
    exact⟨u,h1,cl_sound u⟩
   have:=h'.var hN (clr_none d st) hr t
   simpa using this
 ·cases he
theorem boxE_sound (h:Inv γ0 w0 N st a w η γ){d:Nat}(hN:d<N){t:TypeId}{x:Operand}{st':St}(he:boxE st d x=some st'):
  ∃u w',(Instr.box t (a.eval x)).run P w=.ok u w'∧R γ0 w0 N st' (a.put (some d) u) w':=by
 obtain⟨γ',h'⟩:=h.clr d
 unfold boxE at he
 have hx:=ev_sound h' x
 split at he
 ·rename_i g ls hev
  rw [hev]at hx
  split at he
  ·rename_i hl
   cases he
   obtain⟨h1,h2,h3⟩:=h'.cells hx hl
   refine⟨.pointer (some ⟨w.heap.size,0,none⟩),w.alloc (.cells (a.eval x).cells t),?_,?_⟩
   ·simp [Instr.box,newVar,newRow,newObj,Sem.run]
   ·have:=h'.var hN (clr_none d st) h1 t
    simpa using this
  ·cases he
 ·cases he
end
end PJ
section PK
section
variable {P:Program}{γ0:Nat→Option Nat}{w0:World}{N:Nat}{st:St}{a:Act}{w:World}{η:Nat→Value}{γ γ':Nat→Option Nat}
theorem RepLs.append {xs ys:List Leaf}{us vs:List Value}(h1:RepLs w γ xs us)(h2:RepLs w γ ys vs):RepLs w γ (xs++ys) (us++vs):=by
 refine⟨by simp [h1.1,h2.1],fun j l hj=>?_⟩
 rw [List.getElem?_append]at hj⊢
 rw [h1.1]
 split at hj
 ·rename_i hlt
  rw [if_pos hlt]
  exact h1.2 j l hj
 ·rename_i hlt
  rw [if_neg hlt]
  exact h2.2 _ l hj
theorem RepPs.append {hb:Nat→Option Blk}{xs ys:List PL}{us vs:List Value}(h1:RepPs hb η γ w xs us)(h2:RepPs hb η γ w ys vs):RepPs hb η γ w (xs++ys) (us++vs):=by
 refine⟨by simp [h1.1,h2.1],fun j l hj=>?_⟩
 rw [List.getElem?_append]at hj⊢
 rw [h1.1]
 split at hj
 ·rename_i hlt
  rw [if_pos hlt]
  exact h1.2 j l hj
 ·rename_i hlt
  rw [if_neg hlt]
  exact h2.2 _ l hj
theorem leafsO_append:∀{xs ys:List PL} {us vs:List Leaf} (_:leafsO st xs=some us) (_:leafsO st ys=some vs),leafsO st (xs++ys)=some (us++vs)
 |[],ys,us,vs,h1,h2=>by
  simp only [leafsO,Option.some.injEq]at h1
  subst h1
  exact h2
 |x::xs,ys,us,vs,h1,h2=>by
  unfold leafsO at h1
  split at h1
  ·rename_i a b h3 h4
   cases h1
   simp only [List.cons_append,leafsO,h3,leafsO_append h4 h2]
  ·cases h1
def none0':Nat→Option Nat:=fun _=>none
theorem frz_none {d:Nat}(hd:getB st d=none):∀ls:List PL,getB (Go.Proofs.YtfgkfcfplodaoaaGreatDoor.frz ls st) d=none
 |[]=>hd
 |l::r=>by
  have ih:=frz_none hd r
  cases l<;>simp only [Go.Proofs.YtfgkfcfplodaoaaGreatDoor.frz,getB,ih,Option.map_none,ite_self]<;>exact ih
theorem rowsO_sound (h:Inv γ0 w0 N st a w η γ)(hk:∀b,γ b=none→γ' b=none){s:Nat}:∀(parts:List (Nat×Operand)) (k:Nat) {rows:List (List Leaf)} {all:List PL} (_:rowsO st s k (parts.map fun p=>(p.1,ev st p.2))=some (rows,all))
  (_:∀b n,γ b=some n→(∃l∈all,l=.all n∨∃o k,l=.ref n o k)→γ' b=none),
  ∃cs:List Value,(∀cur:List Value,(k+rows.length)*s≤cur.length→Instr.fill (fun i=>some (i*s,s)) cur.toArray (parts.map fun p=>(p.1,a.eval p.2))=some (cur.take (k*s)++cs++cur.drop ((k+rows.length)*s)).toArray)∧
   RepLs w γ' rows.flatten cs∧(∀row∈rows,row.length=s)∧cs.length=rows.length*s∧RepPs (getB st) η γ w all cs∧leafsO st all=some rows.flatten
 |[],k,rows,all,hr,hg=>by
  simp only [List.map_nil,rowsO,Option.some.injEq,Prod.mk.injEq]at hr
  obtain⟨rfl,rfl⟩:=hr
  exact⟨[],fun cur _=>by simp [Instr.fill],⟨rfl,fun j l hj=>by simp at hj⟩,fun row hr=>absurd hr (by simp),by simp,⟨rfl,fun j l hj=>by simp at hj⟩,rfl⟩
 |(i,x)::r,k,rows,all,hr,hg=>by
  rw [List.map_cons]at hr
  have hx:=ev_sound h x
  simp only at hr
  generalize hev:ev st x=v at hr hx
  unfold rowsO at hr
  split at hr
  ·rename_i h';cases h'
  ·rename_i k0 i0 g0 ls r0 h'
   injection h' with e1 e2
   injection e1 with e1 e3
   subst e1;subst e2;subst e3
   split at hr
   ·rename_i hc
    obtain⟨rfl,hls,hlive⟩:=hc
    split at hr
    ·rename_i row rows' all' h1 h2
     cases hr
     obtain⟨g1,g2,g3⟩:=h.cells hx hlive
     have g4:=leafsO_sound h hk (fun b n hb ⟨l,hl,e⟩=>hg b n hb ⟨l,List.mem_append_left _ hl,e⟩) g1 h1
     have hsz:(a.eval x).cells.toList.length=s:=by rw [g1.1,hls]
     have hrow:row.length=s:=by rw [←g4.1,hsz]
     obtain⟨cs,f1,f2,f3,f4,f5,f6⟩:=rowsO_sound h hk r (i+1) h2 (fun b n hb ⟨l,hl,e⟩=>hg b n hb ⟨l,List.mem_append_right _ hl,e⟩)
     refine⟨(a.eval x).cells.toList++cs,fun cur hcur=>?_,?_,?_,?_,g1.append f5,by rw [List.flatten_cons];exact leafsO_append h1 f6⟩
     ·simp only [List.length_cons]at hcur⊢
      have e1:i*s+s≤cur.length:=by
       have:(i+1)*s≤(i+(rows'.length+1))*s:=Nat.mul_le_mul_right _ (by omega)
       rw [Nat.succ_mul]at this
       omega
      have hs2:(a.eval x).cells.size=s:=by rw [←Array.length_toList];exact hsz
      have hif:¬(decide ((a.eval x).cells.size≠s)||decide (i*s+(a.eval x).cells.size>cur.toArray.size))=true:=by
       rw [hs2]
       simp
       omega
      simp only [List.map_cons,Instr.fill]
      rw [if_neg hif]
      have hz:(Array.foldl (fun cs x=>cs.setIfInBounds (i*s+x.snd) x.fst) cur.toArray (a.eval x).cells.zipIdx)=(cur.take (i*s)++(a.eval x).cells.toList++cur.drop (i*s+s)).toArray:=by
       have:=zip_set (a.eval x).cells.toList 0 (i*s) cur (by omega)
       rw [←Array.foldl_toList,Array.toList_zipIdx]
       simpa [hsz]using this
      have h9:(i+(rows'.length+1))*s=(i+1+rows'.length)*s:=by congr 1;omega
      have h10:(i+1)*s=i*s+s:=Nat.succ_mul _ _
      have h11:(i+1)*s≤(i+1+rows'.length)*s:=Nat.mul_le_mul_right _ (by omega)
      have l1:(cur.take (i*s)++(a.eval x).cells.toList).length=(i+1)*s:=by simp [hs2];omega
      have hfin:=f1 (cur.take (i*s)++(a.eval x).cells.toList++cur.drop (i*s+s)) (by
       rw [List.length_append,l1,List.length_drop]
       omega)
      have hz':(Array.foldl (fun cs x=>match x with|(c,j)=>cs.setIfInBounds (i*s+j) c) cur.toArray (a.eval x).cells.zipIdx)=(cur.take (i*s)++(a.eval x).cells.toList++cur.drop (i*s+s)).toArray:=hz
      rw [hz',hfin]
      congr 2
      have t1:(cur.take (i*s)++(a.eval x).cells.toList++cur.drop (i*s+s)).take ((i+1)*s)=cur.take (i*s)++(a.eval x).cells.toList:=List.take_left' l1
      have t2:(cur.take (i*s)++(a.eval x).cells.toList++cur.drop (i*s+s)).drop ((i+1+rows'.length)*s)=cur.drop ((i+1+rows'.length)*s):=by
       rw [List.drop_append,l1,List.drop_of_length_le (by omega),List.nil_append,List.drop_drop]
       congr 1
       omega
      rw [t1,t2,h9,List.append_assoc (cur.take (i*s))]
     ·rw [List.flatten_cons]
      exact g4.append f2
     ·intro row' hr'
      rcases List.mem_cons.1 hr' with rfl|hr'
      ·exact hrow
      ·exact f3 row' hr'
     ·simp [hsz,f4,Nat.succ_mul,Nat.add_comm]
    ·cases hr
   ·cases hr
  ·cases hr
def makeE (P:Program)(st:St)(d:Nat)(t:TypeId)(n c:PV):Option St:=
 match elT P t,n,c with
 |some e,.comp false [.sc (.int _ n)],.comp false [.sc (.int _ c)]=>match szT P e,byT P e,zeroT P e with
  |some s,some by_,some z=>if n=c∧0≤n∧z.cells.size=s∧0<s∧z.cells.toList.all Value.oneCell'=true∧n*by_≤140737488355328∧n≤140737488355328 then
    some (.slot d (one (.all d))::.blk d (.arr .ft e s (List.replicate n.toNat (z.cells.toList.map Leaf.sc)))::clr d st)else none
  |_,_,_=>none
 |_,_,_=>none
theorem zeros_rows (zs:List Value)(n:Nat):(List.replicate n (zs.map Leaf.sc)).flatten=(zeros zs n).map Leaf.sc:=by
 unfold zeros
 rw [List.map_flatten,List.map_replicate]
theorem makeE_sound (h:Inv γ0 w0 N st a w η γ){d:Nat}(hN:d<N){t:TypeId}{n c:PV}{u v:Value}{st':St}(hn:RepV (getB st) η γ w n u)(hc:RepV (getB st) η γ w c v)(he:makeE P st d t n c=some st'):
  ∃r w',(Instr.makeSlice t u v).run P w=.ok r w'∧R γ0 w0 N st' (a.put (some d) r) w':=by
 obtain⟨γ1,h1⟩:=h.clr d
 unfold makeE at he
 split at he
 ·rename_i e k n k' c hel
  obtain⟨rfl,-⟩:=rep_sc hn
  obtain⟨rfl,-⟩:=rep_sc hc
  split at he
  ·rename_i s by_ z hs hb hz
   split at he
   ·rename_i hcond
    obtain⟨rfl,h0,hzs,hpos,hone,hby,hmx⟩:=hcond
    cases he
    obtain⟨m,rfl⟩:=Int.eq_ofNat_of_zero_le h0
    obtain⟨i,hi,hz⟩:=Option.bind_eq_some_iff.1 hz
    obtain⟨i',hi',hsz⟩:=oms hs
    rw [hi]at hi'
    cases hi'
    obtain⟨i',hi',hbz⟩:=oms hb
    rw [hi]at hi'
    cases hi'
    have hbm:by_*m≤140737488355328:=by
     rw [Nat.mul_comm]
     have:((m*by_:Nat):Int)≤140737488355328:=by rw [Int.natCast_mul];exact hby
     omega
    have hzl:z.cells.toList.length=s:=by rw [Array.length_toList];exact hzs
    have hrun:=run_mk (P:=P) t e z z.cells.toList s by_ (elT_sound hel) (by rw [hi];simp [hz,hsz,hbz]) (by simp) hzl k k' m (by omega) (by omega) w
    refine⟨_,_,hrun,?_⟩
    have hlz:(zeros z.cells.toList m).length=m*s:=by rw [length_zeros,hzl]
    have hrep:=h1.new d hN (clr_none d st) (.arr .ft e s (List.replicate m (z.cells.toList.map Leaf.sc))) (zeros z.cells.toList m).toArray e (.slice (some ⟨w.heap.size,0,none⟩) m m) rfl (fun hn hkp=>by
     refine⟨zeros z.cells.toList m,⟨by rw [List.length_replicate,hlz],.inr ⟨w.heap.size,m,(zeros z.cells.toList m).toArray,by rw [upd_same,List.length_replicate],Nat.zero_le _,heap_alloc_new w _,by simp,by unfold maxLen;omega,by simp [hlz],by rw [List.length_replicate,←hlz];simp⟩⟩,?_,fun row hr=>?_,fun b hb=>?_,fun _ row hr l hl=>?_,fun e=>(by cases e),fun _ _ e=>(by cases e)⟩
     ·rw [zeros_rows,vw_of rfl]
      refine⟨by simp,fun j l hj=>?_⟩
      rw [List.getElem?_map]at hj
      obtain⟨x,hx,rfl⟩:=oms hj
      refine⟨x,hx,.sc ?_⟩
      have hm:=List.mem_of_getElem? hx
      unfold zeros at hm
      obtain⟨l',hl',hx'⟩:=List.mem_flatten.1 hm
      rw [List.eq_of_mem_replicate hl']at hx'
      exact List.all_eq_true.1 hone x hx'
     ·rw [List.eq_of_mem_replicate hr]
      simp [hzs]
     ·rw [upd_same]at hb
      cases hb
      rw [upd_same]
     ·rw [List.eq_of_mem_replicate hr]at hl
      obtain⟨x,_,rfl⟩:=List.mem_map.1 hl
      exact⟨x,rfl⟩)
    exact⟨_,_,hrep.put d _ _ hN (RepV.one_iff.2 ⟨(upd_same _ _ _).symm,_,_,_,_,getB_hit _ _ _⟩)⟩
   ·cases he
  ·cases he
 ·cases he
theorem litE_sound (h:Inv γ0 w0 N st a w η γ){d:Nat}(hN:d<N){t:TypeId}{len:Nat}{parts:Array (Nat×Operand)}{st':St}(he:litE P st d t len parts.toList=some st'):
  ∃u w',(Instr.buildSlice t len (parts.map fun p=>(p.1,a.eval p.2))).run P w=.ok u w'∧R γ0 w0 N st' (a.put (some d) u) w':=by
 obtain⟨γ1,h1⟩:=h.clr d
 unfold litE at he
 split at he
 ·rename_i e hel
  split at he
  ·rename_i s z hs hz
   split at he
   ·rename_i rows all hrows
    split at he
    ·rename_i hc
     obtain⟨hlen,hzs,hpos,hmax⟩:=hc
     obtain⟨i,hi,hz⟩:=Option.bind_eq_some_iff.1 hz
     obtain⟨i',hi',hsz⟩:=oms hs
     rw [hi]at hi'
     cases hi'
     let zero:Array Value:=if len*s=0 then #[]else z.cells
     let cur:Array Value:=(Array.range (len*s)).map (fun i=>zero[i%zero.size]!)
     have hcur:cur.toList.length=len*s:=by simp [cur]
     have hmx:len≤maxLen:=by
      have:len≤len*s:=Nat.le_mul_of_pos_right _ hpos
      unfold maxLen
      omega
     have hrun:∀cs:List Value,(∀cur:List Value,(0+rows.length)*s≤cur.length→Instr.fill (fun i=>some (i*s,s)) cur.toArray (parts.toList.map fun p=>(p.1,a.eval p.2))=some (cur.take (0*s)++cs++cur.drop ((0+rows.length)*s)).toArray)→
       (Instr.buildSlice t len (parts.map fun p=>(p.1,a.eval p.2))).run P w=.ok (.slice (some ⟨w.heap.size,0,none⟩) len len) (w.alloc (.cells cs.toArray e)):=by
      intro cs f1
      have hfill:=f1 cur.toList (by rw [hcur,hlen];simp)
      have hcs:cur.toList.take (0*s)++cs++cur.toList.drop ((0+rows.length)*s)=cs:=by
       rw [Nat.zero_mul,List.take_zero,List.nil_append,List.drop_of_length_le (by rw [hcur,hlen];simp),List.append_nil]
      rw [hcs]at hfill
      have hmap:(parts.map fun p=>(p.1,a.eval p.2)).toList=parts.toList.map fun p=>(p.1,a.eval p.2):=by simp
      have hfill':Instr.fill (fun i=>some (i*s,s)) ((Array.range (len*s)).map (fun i=>zero[i%zero.size]!)) (parts.map fun p=>(p.1,a.eval p.2)).toList=some cs.toArray:=by
       rw [hmap]
       rw [Array.toArray_toList]at hfill
       exact hfill
      have hle:¬(len*s>2^24):=by omega
      have hz1:(zeroValue e).run P w=.ok z w:=by simp [zeroValue,typeInfo,hi,hz]
      by_cases h0:len*s=0
      ·have e0:zero= #[]:=if_pos h0
       rw [e0]at hfill'
       simp only [Instr.buildSlice,Sem.run_bind,run_underlying (elT_sound hel),run_size hs,Result.andThen_ok,if_neg hle,if_pos h0,Sem.run_pure,hfill',newRow,newObj,Sem.run,World.alloc_eq]
      ·have e0:zero=z.cells:=if_neg h0
       rw [e0]at hfill'
       simp only [Instr.buildSlice,Sem.run_bind,run_underlying (elT_sound hel),run_size hs,Result.andThen_ok,if_neg hle,if_neg h0,hz1,Sem.run_pure,hfill',newRow,newObj,Sem.run,World.alloc_eq]
     split at he
     ·cases he
      obtain⟨γ2,h2,hγ2⟩:=h1.frz all
      have hk:∀b,γ1 b=none→γ2 b=none:=fun b hb=>by
       cases hg:γ2 b with
       |none=>rfl
       |some n=>rw [(hγ2 b n hg).1]at hb;cases hb
      obtain⟨cs,f1,f2,f3,f4,_⟩:=rowsO_sound h1 hk parts.toList 0 hrows (fun b n hb ⟨l,hl,e⟩=>by
       cases hg:γ2 b with
       |none=>rfl
       |some m=>
        obtain⟨g1,g2⟩:=hγ2 b m hg
        rw [hb]at g1
        cases g1
        rcases e with rfl|⟨o,k,rfl⟩
        ·exact absurd rfl ((g2 _ hl).1 n rfl)
        ·exact absurd rfl ((g2 _ hl).2 n o k rfl))
      have hnone:getB (Go.Proofs.YtfgkfcfplodaoaaGreatDoor.frz all (Go.Proofs.YtfgkfcfplodaoaaGreatDoor.clr d st)) d=none:=frz_none (clr_none d st) all
      refine⟨_,_,hrun cs f1,?_⟩
      have hrep:=h2.new d hN hnone (.arr (flB rows) e s rows) cs.toArray e (.slice (some ⟨w.heap.size,0,none⟩) len len) rfl (fun hn hkp=>by
       refine⟨cs,⟨by rw [f4],.inr ⟨w.heap.size,len,cs.toArray,by rw [upd_same,hlen],Nat.zero_le _,heap_alloc_new w _,by omega,hmx,by simp [f4,hlen],by rw [←f4];simp⟩⟩,by rw [vw_of (flB_nst rows)];exact f2.kp hkp,f3,fun b hb=>?_,fun hfl=>flatB_iff (flB_fl hfl),fun e=>absurd e (nst_nd (flB_nst rows)),fun _ _ e=>absurd e (nst_fr (flB_nst rows))⟩
       rw [upd_same]at hb
       cases hb
       rw [upd_same])
      exact⟨_,_,hrep.put d _ _ hN (RepV.one_iff.2 ⟨(upd_same _ _ _).symm,_,_,_,_,getB_hit _ _ _⟩)⟩
     ·rename_i hc2
      cases he
      have h1len:len=1:=by
       by_cases h9:len=1
       ·exact h9
       ·exact absurd (.inr h9) hc2
      obtain⟨cs,f1,_,f3,f4,f5,f6⟩:=rowsO_sound h1 (γ':=none0') (fun _ _=>rfl) parts.toList 0 hrows (fun _ _ _ _=>rfl)
      refine⟨_,_,hrun cs f1,?_⟩
      have hrep:=h1.new d hN (clr_none d st) (.box all) cs.toArray e (.pointer (some ⟨w.heap.size,0,none⟩)) rfl (fun hn hkp=>
       ⟨w.heap.size,cs.toArray,e,upd_same _ _ _,upd_same _ _ _,heap_alloc_new w _,by simpa using f5.kp hn hkp⟩)
      exact⟨_,_,hrep.put d _ _ hN (RepV.one_iff.2 ⟨all,w.heap.size,getB_hit _ _ _,upd_same _ _ _,by rw [h1len]⟩)⟩
    ·cases he
   ·cases he
  ·cases he
 ·cases he
end
end PK
section PL
def rowsOf (st:St):PV→Option (Bool×List (List Leaf))
 |.comp false [l]=>match l with
  |.nil=>some (true,[])
  |.sl rows=>some (flatB rows,rows)
  |.all n=>match getB st n with
   |some (.arr fl _ _ rows)=>if fl.nst=true then none else some (fl.isFl,rows)
   |_=>none
  |.ref n off len=>match getB st n with
   |some (.arr fl _ _ rows)=>if fl.nst=true then none else some (fl.isFl,(rows.drop off).take len)
   |_=>none
  |_=>none
 |_=>none
def destOf (st:St)(d e s:Nat):PV→Option (Nat×Fl×List (List Leaf))
 |.comp false [l]=>match l with
  |.nil=>match getB st d with
   |none=>some (d,.ft,[])
   |some _=>none
  |.all n=>match getB st n with
   |some (.arr fl e' s' rows)=>if e'=e∧s'=s∧¬n=999∧fl.nst=false then some (n,fl,rows)else none
   |_=>none
  |.ref n off len=>match getB st n with
   |some (.arr fl e' s' rows)=>if e'=e∧s'=s∧¬n=999∧off=0∧fl.nst=false then some (n,fl,rows.take len)else none
   |_=>none
  |_=>none
 |_=>none
def appN (st:St)(d e s by_:Nat):PV→PV→Option St
 |.comp false [.all n],.comp false [.lit m]=>match getB st n,getB st m with
  |some (.arr fx e1 s1 rx),some (.box ls)=>match leafsO st ls with
   |some row=>if e1=e∧s1=s∧ls.length=s∧nstOk st n ls=true∧¬n=999∧¬m=999∧(fx.isFl||fx.isNd)=true∧0<s∧rx.length+1≤140737488355328∧(rx.length+1)*by_≤140737488355328 then
     some (.slot d (one (.all n))::.blk n (.arr .nd e s (rx++[row]))::.kill n::.kill m::absL ls (.blk n (.arr .nd e s rx)::st))
    else none
   |none=>none
  |_,_=>none
 |_,_=>none
def appE (P:Program)(st:St)(d:Nat)(t:TypeId)(x y:Operand):Option St:=
 match elT P t with
 |some e=>match szT P e,byT P e,zeroT P e with
  |some s,some by_,some z=>match destOf st d e s (ev st x),rowsOf st (ev st y)with
   |some (n,fx,rx),some (fy,ry)=>
    if z.cells.size=s∧0<s∧wid s ry∧rx.length+ry.length≤140737488355328∧(rx.length+ry.length)*by_≤140737488355328 then
     some (.slot d (one (.all n))::.blk n (.arr (fx.and fy) e s (rx++ry))::.kill n::st)
    else none
   |_,_=>if z.cells.size=s then appN st d e s by_ (ev st x) (ev st y)else none
  |_,_,_=>none
 |none=>none
section
variable {P:Program}{γ0:Nat→Option Nat}{w0:World}{N:Nat}{st:St}{a:Act}{w:World}{η:Nat→Value}{γ γ':Nat→Option Nat}
theorem RepL.oneC {l:Leaf}{u:Value}(h:RepL w γ l u):u.oneCell'=true:=by cases h<;>first|assumption|rfl
theorem RepLs.oneC {ls:List Leaf}{us:List Value}(h:RepLs w γ ls us):∀u∈us,u.oneCell'=true:=by
 intro u hu
 obtain⟨j,hj,rfl⟩:=List.getElem_of_mem hu
 obtain⟨u',h1,h2⟩:=h.2 j _ (gsE (by rw [←h.1];exact hj))
 rw [gsE hj]at h1
 cases h1
 exact h2.oneC
theorem flat_sub (rows:List (List Leaf))(off len:Nat)(h:∀row∈rows,∀l∈row,∃v,l=Leaf.sc v):∀row∈(rows.drop off).take len,∀l∈row,∃v,l=Leaf.sc v:=
 fun row hr=>h row (List.mem_of_mem_drop (List.mem_of_mem_take hr))
theorem rowsOf_sound (h:Inv γ0 w0 N st a w η γ){x:PV}{u:Value}{fl:Bool}{rows:List (List Leaf)}{s:Nat}(hx:RepV (getB st) η γ w x u)(hr:rowsOf st x=some (fl,rows))(hs:wid s rows):
  ∃A c,u=.slice A rows.length c∧rows.length≤c∧(fl=true→∀row∈rows,∀l∈row,∃v,l=Leaf.sc v)∧(rows≠[]→∃ad us,A=some ad∧RepLs w γ rows.flatten us∧us.length=rows.length*s∧∀(j:Nat) (v:Value),us[j]?=some v→w.cell? (ad.add j)=some v):=by
 unfold rowsOf at hr
 split at hr
 ·rename_i l
  replace hx:=RepV.one_iff.1 hx
  split at hr
  ·cases hr
   cases hx
   exact⟨none,0,rfl,Nat.le_refl _,fun _ row hr=>absurd hr (by simp),fun e=>absurd rfl e⟩
  ·rename_i rows'
   cases hr
   cases hx with
   |emp hc=>exact⟨_,_,rfl,Nat.zero_le _,fun _ row hr=>absurd hr (by simp),fun e=>absurd rfl e⟩
   | @sl _ b off s' cap val g1 g2 g3 g4 g5 g6 g7=>
    refine⟨_,_,rfl,g3,fun hf=>flatB_iff hf,fun hne=>?_⟩
    have hss:s'=s:=by
     cases rows with
     |nil=>exact absurd rfl hne
     |cons r rs=>rw [←g5 r List.mem_cons_self,hs r List.mem_cons_self]
    subst hss
    have hfl:=flatten_len g5
    refine⟨⟨b,off,none⟩,(List.range (rows.length*s')).map fun k=>val (k/s') (k%s'),rfl,⟨by simp [hfl],fun j l hj=>?_⟩,by simp,fun j v hj=>?_⟩
    ·have hjl:j<rows.length*s':=by rw [←hfl];exact(gsS hj).1
     have hsp:0<s':=by rcases Nat.eq_zero_or_pos s' with h|h;rw [h]at hjl;omega;exact h
     have hi:j/s'<rows.length:=(Nat.div_lt_iff_lt_mul hsp).2 hjl
     have hrow:=flatten_row g5 (gsE hi) (j%s') (Nat.mod_lt _ hsp)
     rw [Nat.div_add_mod' j s']at hrow
     rw [hj]at hrow
     exact⟨val (j/s') (j%s'),by simp [hjl],g7 _ _ _ _ (gsE hi) hrow.symm⟩
    ·rw [List.getElem?_map]at hj
     obtain⟨k,hk,rfl⟩:=oms hj
     have hjl:j<rows.length*s':=by
      have:=(gsS hk).1
      simpa using this
     rw [List.getElem?_range hjl]at hk
     cases hk
     have hsp:0<s':=by rcases Nat.eq_zero_or_pos s' with h|h;rw [h]at hjl;omega;exact h
     have hi:j/s'<rows.length:=(Nat.div_lt_iff_lt_mul hsp).2 hjl
     have hm:j%s'<rows[j/s'].length:=by rw [g5 _ (List.getElem_mem hi)];exact Nat.mod_lt _ hsp
     have:=g6 (j/s') _ (j%s') _ (gsE hi) (gsE hm)
     rw [Nat.add_assoc,Nat.div_add_mod' j s']at this
     rw [Addr.add_mid]
     exact this
  ·rename_i n
   split at hr
   ·rename_i fl' e s' rows' hbx
    split at hr
    ·cases hr
    rename_i hnst
    cases hr
    obtain⟨rfl,_⟩:=hx
    obtain⟨xs,⟨hxl,ho⟩,hrx,hs',_,hff,_⟩:=h.blks n _ hbx
    replace hff:=fun hf:fl'.isFl=true=>hff (isFl_iff hf)
    rw [vw_of (by simpa using hnst)]at hrx
    rcases ho with⟨ho,hz⟩|⟨g,cap,cur,hg',_,hh,h1,h2,_,ht⟩
    ·have:rows=[]:=List.length_eq_zero_iff.1 hz
     subst this
     rw [ho]
     exact⟨none,0,rfl,Nat.le_refl _,hff,fun e=>absurd rfl e⟩
    ·rw [hg']
     refine⟨_,_,rfl,h1,hff,fun hne=>?_⟩
     have hss:s'=s:=by
      cases rows with
      |nil=>exact absurd rfl hne
      |cons r rs=>rw [←hs' r List.mem_cons_self,hs r List.mem_cons_self]
     subst hss
     refine⟨⟨g,0,none⟩,xs,rfl,hrx,hxl,fun j v hj=>?_⟩
     rw [Addr.add_mid,Nat.zero_add]
     rw [←ht,List.getElem?_take]at hj
     split at hj
     ·simp only [World.cell?,hh]
      simpa using hj
     ·cases hj
   ·cases hr
  ·rename_i n off len
   split at hr
   ·rename_i fl' e s' rows' hbx
    split at hr
    ·cases hr
    rename_i hnst
    cases hr
    have hB:=h.blks n _ hbx
    obtain⟨xs,⟨hxl,ho⟩,hrx,hs',_,hff,_⟩:=id hB
    replace hff:=fun hf:fl'.isFl=true=>hff (isFl_iff hf)
    rw [vw_of (by simpa using hnst)]at hrx
    obtain⟨fl1,e1,s1,rows1,h1,h2,h3⟩:=hx
    rw [hbx]at h1
    cases h1
    have hlen:((rows'.drop off).take len).length=len:=by simp;omega
    rcases h3 with⟨_,rfl,rfl⟩|⟨b,c,cap,h4,rfl,h5,h6,_⟩
    ·refine⟨none,0,by rw [hlen],by rw [hlen];exact Nat.le_refl _,fun hf=>flat_sub _ _ _ (hff hf),fun e=>absurd (by simp) e⟩
    ·refine⟨_,cap,by rw [hlen],by rw [hlen];exact h5,fun hf=>flat_sub _ _ _ (hff hf),fun hne=>?_⟩
     have hss:s'=s:=by
      cases hrr:(rows'.drop off).take len with
      |nil=>exact absurd hrr hne
      |cons r rs=>
       have hm:r∈(rows'.drop off).take len:=by rw [hrr];exact List.mem_cons_self
       rw [←hs' r (List.mem_of_mem_drop (List.mem_of_mem_take hm)),hs r hm]
     subst hss
     rw [h4]at ho
     rcases ho with⟨ho,_⟩|⟨g,cap',cur,hg',_,hh,_,_,hcs,ht⟩
     ·cases ho
     cases hg'
     have hle:off*s'+len*s'≤rows'.length*s':=by rw [←Nat.add_mul];exact Nat.mul_le_mul_right _ h2
     have hfl:=flatten_len hs'
     have hfl2:((rows'.drop off).take len).flatten=(rows'.flatten.drop (off*s')).take (len*s'):=by
      have hd:(rows'.drop off).flatten=rows'.flatten.drop (off*s'):=by
       have h7:=List.take_append_drop off rows'
       have h8:(rows'.take off).flatten.length=off*s':=by
        rw [flatten_len (fun row hr=>hs' row (List.mem_of_mem_take hr)),List.length_take]
        congr 1;omega
       conv=>rhs;rw [←h7]
       rw [List.flatten_append,List.drop_left' h8]
      rw [←hd]
      have h7:=List.take_append_drop len (rows'.drop off)
      have h8:((rows'.drop off).take len).flatten.length=len*s':=by
       rw [flatten_len (fun row hr=>hs' row (List.mem_of_mem_drop (List.mem_of_mem_take hr))),hlen]
      conv=>rhs;rw [←h7]
      rw [List.flatten_append,List.take_left' h8]
     refine⟨⟨b,off*s',none⟩,(xs.drop (off*s')).take (len*s'),rfl,⟨by rw [hfl2];simp [hxl,hfl],fun j l hj=>?_⟩,by rw [hlen];simp [hxl];omega,fun j v hj=>?_⟩
     ·rw [hfl2,List.getElem?_take]at hj
      split at hj
      ·rename_i hjl
       rw [List.getElem?_drop]at hj
       obtain⟨u,h7,h8⟩:=hrx.2 _ l hj
       exact⟨u,by rw [List.getElem?_take,if_pos hjl,List.getElem?_drop];exact h7,h8⟩
      ·cases hj
     ·rw [List.getElem?_take]at hj
      split at hj
      ·rw [List.getElem?_drop,←ht,List.getElem?_take]at hj
       split at hj
       ·rw [Addr.add_mid]
        simp only [World.cell?,hh]
        simpa using hj
       ·cases hj
      ·cases hj
   ·cases hr
  ·cases hr
 ·cases hr
end
end PL
section PM
section
variable {P:Program}{γ0:Nat→Option Nat}{w0:World}{N:Nat}{st:St}{a:Act}{w:World}{η:Nat→Value}{γ γ':Nat→Option Nat}
theorem run_append_zero {t ty e s:Nat}(he:elT P t=some e)(hs:szT P e=some s)(A B:Option Addr)(n cap c:Nat)(h:n≤cap):
  (Builtin.append_ #[t,t] ty #[.slice A n cap,.slice B 0 c]).run P w=.ok (.slice A n cap) w:=by
 obtain⟨i,hi,hs⟩:=oms hs
 cases B<;>cases A<;>simp [Builtin.append_,run_underlying (elT_sound he),sizeOf,typeInfo,hi,Builtin.lenOf,Builtin.firstCells,loadCells,loadCellsFrom,h,storeCells]
theorem own_block_or {t ty e s by_:Nat}{z:Value}(he:elT P t=some e)(hs:szT P e=some s)(hb:byT P e=some by_)(hz:zeroT P e=some z)(hzs:z.cells.size=s)(hsz:0<s)
  {v:Value} {n:Nat} {xs:List Value} (hown:w.ownsRow 0 e s v n xs) (ad:Addr) (m c:Nat) (hm:0<m) (news:List Value) (hl:news.length=m*s) (hnews:∀j u,news[j]?=some u→w.cell? (ad.add j)=some u) (h1:∀u∈news,u.oneCell'=true)
  (h63:n+m≤140737488355328) (hbytes:(n+m)*by_≤140737488355328):
  ∃v' w',(Builtin.append_ #[t,t] ty #[v,.slice (some ad) m c]).run P w=.ok v' w'∧w'.ownsRow 0 e s v' (n+m) (xs++news)∧w.grownBy w' v.ownBlock∧(v'.ownBlock=v.ownBlock∨v'.ownBlock=some w.heap.size)∧(∃g c,v'=.slice (some ⟨g,0,none⟩) (n+m) c):=by
 obtain⟨i,hi,hs'⟩:=oms hs
 obtain⟨i2,hi2,hb'⟩:=oms hb
 rw [hi]at hi2
 cases hi2
 obtain⟨i3,hi3,hz'⟩:=Option.bind_eq_some_iff.1 hz
 rw [hi]at hi3
 cases hi3
 have ht:=elT_sound he
 have hmx:n+m≤maxLen:=by unfold maxLen;omega
 obtain⟨v',w',hr,ho',hg,_⟩:=run_append_own (P:=P) w 0 t ty e i z s by_ ht hi hz' hs' hb' hzs hsz v n xs hown ad m c news hl hnews h1 hmx hbytes (Nat.zero_le _)
 have key:(v'.ownBlock=v.ownBlock∨v'.ownBlock=some w.heap.size)∧(∃g c,v'=.slice (some ⟨g,0,none⟩) (n+m) c):=by
  subst hs'
  subst hb'
  rcases hown.2 with⟨rfl,rfl⟩|⟨g,cap,cur,rfl,hbg,hgg,hnc,hcm,hcs,htake⟩
  ·have hr2:=run_append_nil (P:=P) (ty:=ty) w t e i z ht hi hz' ad m c news hl hnews hm (by omega) (by simp only [Nat.zero_add]at hbytes;omega)
   rw [hr]at hr2
   injection hr2 with e1 e2
   rw [e1]
   exact⟨.inr rfl,_,_,by rw [Nat.zero_add]⟩
  ·by_cases hroom:n+m≤cap
   ·have hfit:n*i.size+news.length≤cur.size:=by rw [hl,hcs,←Nat.add_mul];exact Nat.mul_le_mul_right _ hroom
    have hr2:=run_append_room (P:=P) (ty:=ty) w t e i ht hi g n cap cur hgg ad m c news hl hnews h1 hroom hfit
    rw [hr]at hr2
    injection hr2 with e1 e2
    rw [e1]
    exact⟨.inl rfl,_,_,rfl⟩
   ·have holds:∀j u,xs[j]?=some u→w.cell? ((⟨g,0,none⟩:Addr).add j)=some u:=hown.cells (g:=g) rfl
    have hr2:=run_append_grow (P:=P) (ty:=ty) w t e i z ht hi hz' ⟨g,0,none⟩ n cap xs hown.1 holds ad m c news hl hnews (by omega) (by omega) (growslice_fits (by omega) hbytes)
    rw [hr]at hr2
    injection hr2 with e1 e2
    rw [e1]
    exact⟨.inr rfl,_,_,rfl⟩
 exact⟨v',w',hr,ho',hg,key.1,key.2⟩
theorem Inv.grow (h:Inv γ0 w0 N st a w η γ)(n d:Nat)(hN:d<N)(hn9:N≤999→n≠999){fl:Fl}{e s:Nat}{rows:List (List Leaf)}{v v':Value}{w':World}{xs:List Value}
  (hv:∀b,v.ownBlock=some b→γ b=some n) (ho:w'.ownsRow 0 e s v' rows.length xs) (hg:w.grownBy w' v.ownBlock) (hb:v'.ownBlock=v.ownBlock∨v'.ownBlock=some w.heap.size)
  (hrep:Kp w w' γ (fun k=>if v'.ownBlock=some k then some n else if γ k=some n then none else γ k)→RepLs w' (fun k=>if v'.ownBlock=some k then some n else if γ k=some n then none else γ k) rows.flatten xs)
  (hs:∀row∈rows,row.length=s) (hnst:fl.nst=false) (hf:fl=.ft→∀row∈rows,∀l∈row,∃v,l=Leaf.sc v):
  R γ0 w0 N (.slot d (one (.all n))::.blk n (.arr fl e s rows)::.kill n::st) (a.put (some d) v') w':=by
 have hcases:∀k,v'.ownBlock=some k→(v.ownBlock=some k∧γ k=some n)∨k=w.heap.size:=by
  intro k hk
  rcases hb with hb|hb
  ·left;rw [←hb];exact⟨hk,hv k (hb▸hk)⟩
  ·right;rw [hb]at hk;cases hk;rfl
 have h1:=h.repl n hn9 (.arr fl e s rows) w' v' (fun k=>if v'.ownBlock=some k then some n else if γ k=some n then none else γ k) hg.size
  (fun k hk hne=>by
   have hnb:v'.ownBlock≠some k:=by
    intro e
    rcases hcases k e with⟨_,h2⟩|h2
    ·exact hne h2
    ·omega
   refine⟨hg.block k hk (fun e=>hne (hv k e.symm)),?_⟩
   simp only [if_neg hnb,if_neg hne])
  (fun k m hm=>by
   by_cases h2:v'.ownBlock=some k
   ·simp only [if_pos h2]at hm
    cases hm
    left
    refine⟨rfl,?_,.inl ?_,?_⟩
    ·obtain⟨_,ho⟩:=ho
     rcases ho with⟨ho,_⟩|⟨g,cap,cur,hg',_,hh,_⟩
     ·rw [ho]at h2;cases h2
     ·rw [hg']at h2;cases h2;exact heap_lt hh
    ·cases v' with
     |slice A l c=>cases A with
      |none=>cases h2
      |some A=>exact h2
     |_=>cases h2
    ·intro hlt
     rcases hcases k h2 with⟨_,h3⟩|h3
     ·exact h3
     ·omega
   ·simp only [if_neg h2]at hm
    by_cases h3:γ k=some n
    ·simp [h3]at hm
    ·simp only [if_neg h3]at hm
     right
     exact⟨fun e=>h3 (e▸hm),hm⟩)
  hg.os hg.tape hg.output (fun ls e=>by cases e)
  (fun hk=>⟨xs,by rw [upd_same];exact ho,by rw [vw_of hnst];exact hrep hk,hs,fun b hb=>by rw [upd_same]at hb;simp only [if_pos hb],hf,fun e=>absurd e (nst_nd hnst),fun _ _ e=>absurd e (nst_fr hnst)⟩)
 exact⟨_,_,h1.put d _ _ hN (RepV.one_iff.2 ⟨(upd_same _ _ _).symm,_,_,_,_,getB_hit _ _ _⟩)⟩
theorem take_rows {β:Type}{s:Nat}{rows:List (List β)}(hw:∀row∈rows,row.length=s){m:Nat}(hm:m≤rows.length):(rows.take m).flatten=rows.flatten.take (m*s):=by
 have e1:=flatten_len (rows:=rows.take m) fun row hr=>hw row (List.mem_of_mem_take hr)
 have e2:(rows.take m).flatten.length=m*s:=by rw [e1,List.length_take];congr 1;omega
 conv=>rhs;rw [←List.take_append_drop m rows,List.flatten_append,←e2,List.take_left]
theorem RepLs.take {ls:List Leaf}{us:List Value}(h:RepLs w γ ls us)(m:Nat):RepLs w γ (ls.take m) (us.take m):=by
 refine⟨by rw [List.length_take,List.length_take,h.1],fun j x hj=>?_⟩
 rw [List.getElem?_take]at hj⊢
 split at hj
 ·rename_i hlt
  rw [if_pos hlt]
  exact h.2 j x hj
 ·cases hj
theorem isNd_iff {f:Fl}(h:f.isNd=true):f=.nd:=by cases f<;>first|rfl|cases h
theorem hdr_own {w:World}{e s n:Nat}{v:Value}{xs:List Value}(h:w.ownsRow 0 e s v n xs){b:Nat}:hdrBlock v=some b↔v.ownBlock=some b:=by
 rcases h.2 with⟨h,_⟩|⟨g,cap,cur,h,_⟩
 ·subst h
  constructor
  ·intro e
   cases e
  ·intro e
   cases e
 ·subst h
  exact Iff.rfl
theorem Dis.append {w:World}{γ:Nat→Option Nat}{n:Nat}{hd:Value}{ls ls':List Leaf}{us us':List Value}(hl:us.length=ls.length)(h1:Dis w γ n hd ls us)(h2:Dis w γ n hd ls' us')
  (hx:∀(i j:Nat) (r r':List (List Leaf)) (u u':Value) (b:Nat),ls[i]?=some (.sl r)→ls'[j]?=some (.sl r')→us[i]?=some u→us'[j]?=some u'→hdrBlock u=some b→hdrBlock u'≠some b):Dis w γ n hd (ls++ls') (us++us'):=by
 refine⟨fun i r u b g1 g2 g3=>?_,fun i j r r' u u' b hne g1 g2 g3 g4 g5=>?_⟩
 ·rw [List.getElem?_append]at g1 g2
  rw [hl]at g2
  split at g1
  ·rename_i hlt
   rw [if_pos hlt]at g2
   exact h1.1 i r u b g1 g2 g3
  ·rename_i hlt
   rw [if_neg hlt]at g2
   exact h2.1 _ r u b g1 g2 g3
 ·rw [List.getElem?_append]at g1 g2 g3 g4
  rw [hl]at g3 g4
  split at g1
  ·rename_i hi
   rw [if_pos hi]at g3
   split at g2
   ·rename_i hj
    rw [if_pos hj]at g4
    exact h1.2 i j r r' u u' b hne g1 g2 g3 g4 g5
   ·rename_i hj
    rw [if_neg hj]at g4
    exact hx i _ r r' u u' b g1 g2 g3 g4 g5
  ·rename_i hi
   rw [if_neg hi]at g3
   split at g2
   ·rename_i hj
    rw [if_pos hj]at g4
    intro g6
    exact hx j _ r' r u' u b g2 g1 g4 g3 g6 g5
   ·rename_i hj
    rw [if_neg hj]at g4
    exact h2.2 _ _ r r' u u' b (by omega) g1 g2 g3 g4 g5
theorem appN_sound (h:Inv γ0 w0 N st a w η γ){d:Nat}(hN:d<N){t ty e s by_:Nat}{z:Value}(hel:elT P t=some e)(hs:szT P e=some s)(hby:byT P e=some by_)(hz:zeroT P e=some z)(hzs:z.cells.size=s){x y:PV}{u v:Value}(hx:RepV (getB st) η γ w x u)(hy:RepV (getB st) η γ w y v){st':St}(he:appN st d e s by_ x y=some st'):
  ∃r w',(Builtin.append_ #[t,t] ty #[u,v]).run P w=.ok r w'∧R γ0 w0 N st' (a.put (some d) r) w':=by
 unfold appN at he
 split at he
 ·rename_i n m
  split at he
  ·rename_i fx e1 s1 rx ls hbn hbm
   split at he
   ·rename_i row hrow
    split at he
    ·rename_i hc
     obtain⟨rfl,rfl,hlen,hok,hn9,hm9,hfx,hpos,hmx,hbytes⟩:=hc
     cases he
     obtain⟨hu,_⟩:=RepV.one_iff.1 hx
     subst hu
     obtain⟨ls0,bm,hbm0,hηm,rfl⟩:=RepV.one_iff.1 hy
     obtain⟨bm',us,tb,hηm',hgm,hhm,hrus⟩:=h.blks m _ hbm
     rw [hηm]at hηm'
     injection hηm' with hηm'
     injection hηm' with hηm'
     injection hηm' with hηm'
     subst hηm'
     have hnm:¬n=m:=fun e=>by rw [e,hbm]at hbn;cases hbn
     have hmn:m≠n:=fun e=>hnm e.symm
     -- the row that grows is of the kind nd
     have hnd:Inv γ0 w0 N (.blk n (.arr .nd e1 s1 rx)::st) a w η γ:=by
      cases hf:fx.isFl with
      |true=>
       have e':=isFl_iff hf
       subst e'
       exact h.toNd hbn
      |false=>
       rw [hf,Bool.false_or]at hfx
       have e':=isNd_iff hfx
       subst e'
       exact h.same hbn
     have hbn':getB (.blk n (.arr .nd e1 s1 rx)::st) n=some (.arr .nd e1 s1 rx):=getB_hit _ _ _
     have hbm':getB (.blk n (.arr .nd e1 s1 rx)::st) m=some (.box ls):=(if_neg hnm).trans hbm
     have hnames:∀q,hasAll q ls=true→q≠n∧q≠m:=fun q hq=>by
      obtain⟨j,hj⟩:=List.mem_iff_getElem?.1 (hasAll_iff.1 hq)
      rcases nstOk_get hok j _ hj with⟨v,h3⟩|h3|⟨n',_,_,_,h3,h5,h4⟩
      ·cases h3
      ·cases h3
      ·cases h3
       exact⟨h4,fun e=>by rw [e,hbm]at h5;cases h5⟩
     have hmls:hasAll m ls=false:=by
      cases hq:hasAll m ls with
      |false=>rfl
      |true=>exact absurd rfl (hnames m hq).2
     obtain⟨xs,ho,hrx,hwx,hgx,hflx⟩:=hnd.blks n _ hbn'
     obtain⟨γ2,h2,hb2,hk2,hm2⟩:=hnd.absL hbn' rfl ls (fun q hq=>(hnames q (hasAll_iff.2 hq)).1)
     have h3:=h2.drop m
     have e2n:∀b,γ b=some n→γ2 b=some n:=fun b hb=>by
      have:=hm2 b n hb
      rw [ite_self]at this
      exact this
     have e2q:∀b q,γ b=some q→hasAll q ls=true→γ2 b=some n:=fun b q hb hq=>by
      have:=hm2 b q hb
      rw [if_pos hq]at this
      exact this
     let γ3:Nat→Option Nat:=fun b=>if γ2 b=some m then none else γ2 b
     have e3:∀b,γ2 b=some n→γ3 b=some n:=fun b hb=>by
      simp only [γ3]
      rw [if_neg (by rw [hb];intro e;injection e with e;exact hnm e)]
      exact hb
     have hrowl:row.length=s1:=by rw [(leafsO_get hrow).1,hlen]
     have husl:us.toList.length=1*s1:=by rw [hrus.1,hlen];omega
     have hone:∀u∈us.toList,u.oneCell'=true:=by
      have:=(leafsO_sound h (γ':=none0') (fun _ _=>rfl) (fun _ _ _ _=>rfl) hrus hrow).oneC
      exact this
     obtain⟨v',w',hrun,ho',hg,hb,_⟩:=own_block_or (P:=P) (ty:=ty) hel hs hby hz hzs hpos ho ⟨bm,0,none⟩ 1 1 (by omega) us.toList husl (fun j u hj=>by
      rw [Addr.add_mid,Nat.zero_add]
      simp only [World.cell?,hhm]
      simpa using hj) hone hmx hbytes
     refine⟨v',w',hrun,?_⟩
     have hlt:∀k q,γ k=some q→k<w.heap.size:=fun k q hk=>(hnd.live k q hk).1
     have hcases:∀k,v'.ownBlock=some k→((η n).ownBlock=some k∧γ k=some n)∨k=w.heap.size:=by
      intro k hk
      rcases hb with hb|hb
      ·left;rw [←hb];exact⟨hk,hgx k (hb▸hk)⟩
      ·right;rw [hb]at hk;cases hk;rfl
     have hnotq:∀k q,γ k=some q→q≠n→v'.ownBlock≠some k:=fun k q hk hqn e=>by
      rcases hcases k e with⟨_,h2⟩|h2
      ·rw [hk]at h2;injection h2 with h2;exact hqn h2
      ·have:=hlt k q hk;omega
     obtain⟨hl1,_,_⟩:=nst_leafs h hrus hrow hok (γ2:=γ2) (hd:=η n) (fun b q hb hq=>⟨e2q b q hb hq,fun e=>by
      have:=hgx b e
      rw [hb]at this
      injection this with this
      exact(hnames q hq).1 this⟩)
     obtain⟨_,hl2,hl3⟩:=nst_leafs h hrus hrow hok (γ2:=γ2) (hd:=v') (fun b q hb hq=>⟨e2q b q hb hq,hnotq b q hb (hnames q hq).1⟩)
     let γ4:Nat→Option Nat:=fun k=>if v'.ownBlock=some k then some n else γ3 k
     have e4:∀k,γ2 k=some n→γ4 k=some n:=fun k hk=>by
      by_cases h2:v'.ownBlock=some k
      ·simp only [γ4,if_pos h2]
      ·simp only [γ4,if_neg h2]
       exact e3 k hk
     have h1:=h3.repl n (fun _=>hn9) (.arr .nd e1 s1 (rx++[row])) w' v' γ4 hg.size
      (fun k hk hne=>by
       have hne:γ3 k≠some n:=hne
       have hgn:γ k≠some n:=fun e=>hne (e3 k (e2n k e))
       have hnb:v'.ownBlock≠some k:=by
        intro e
        rcases hcases k e with⟨_,h2⟩|h2
        ·exact hgn h2
        ·omega
       exact⟨hg.block k hk (fun e=>hgn (hgx k e.symm)),by simp only [γ4,if_neg hnb];rfl⟩)
      (fun k q hq=>by
       have hq:γ4 k=some q:=hq
       by_cases h2:v'.ownBlock=some k
       ·simp only [γ4,if_pos h2]at hq
        cases hq
        left
        refine⟨rfl,?_,.inl ((hdr_own ho').2 h2),fun hk=>?_⟩
        ·rcases ho'.2 with⟨ho,_⟩|⟨g,cap,cur,hg',_,hh,_⟩
         ·rw [ho]at h2;cases h2
         ·rw [hg']at h2;cases h2;exact heap_lt hh
        ·rcases hcases k h2 with⟨_,h4⟩|h4
         ·exact e3 k (e2n k h4)
         ·omega
       ·have hq3:γ3 k=some q:=by
         rw [←hq]
         exact(if_neg h2).symm
        have hk:k<w.heap.size:=(h3.live k q hq3).1
        by_cases hqn:q=n
        ·subst hqn
         exact .inl ⟨rfl,Nat.lt_of_lt_of_le hk hg.size,.inr rfl,fun _=>hq3⟩
        ·exact .inr ⟨hqn,hq3⟩)
      hg.os hg.tape hg.output (fun ls e'=>by cases e')
      (fun hkp=>by
       have hout:∀k,γ k=some n→(η n).ownBlock≠some k→v'.ownBlock≠some k:=fun k hk hne e=>by
        rcases hcases k e with⟨h2,_⟩|h2
        ·exact hne h2
        ·have:=hlt k n hk;omega
       have kx:Kp w w' (vw .nd n (η n) γ) (vw .nd n v' γ4):=⟨hg.size,fun k hk hv=>by
        simp only [vw,Fl.nst,if_true]at hv⊢
        split at hv
        ·rename_i h2
         rw [if_pos ⟨e4 k (e2n k h2.1),hout k h2.1 h2.2⟩]
         exact⟨rfl,hg.block k hk (fun e=>h2.2 e.symm)⟩
        ·cases hv⟩
       have ky:Kp w w' (vw .nd n (η n) γ2) (vw .nd n v' γ4):=⟨hg.size,fun k hk hv=>by
        simp only [vw,Fl.nst,if_true]at hv⊢
        split at hv
        ·rename_i h2
         rw [if_pos ⟨e4 k h2.1,fun e=>by
          rcases hcases k e with⟨h5,_⟩|h5
          ·exact h2.2 h5
          ·omega⟩]
         exact⟨rfl,hg.block k hk fun e=>h2.2 e.symm⟩
        ·cases hv⟩
       have dx:=hflx.2.1 rfl
       have dx':Dis w' γ4 n v' rx.flatten xs:=⟨fun i r u b g1 g2 g3=>by
        obtain⟨z1,z2,cs,tt,z3⟩:=dx.1 i r u b g1 g2 g3
        exact⟨e4 b (e2n b z1),hout b z1 z2,cs,tt,by rw [hg.block b (heap_lt z3) fun e=>z2 e.symm];exact z3⟩,dx.2⟩
       have dy':Dis w' γ4 n v' row us.toList:=⟨fun i r u b g1 g2 g3=>by
        obtain⟨z1,z2,cs,tt,z3⟩:=hl2.1 i r u b g1 g2 g3
        obtain⟨q,q1,q2⟩:=hl3 i r u b g1 g2 g3
        exact⟨e4 b z1,z2,cs,tt,by rw [hg.block b (heap_lt z3) fun e=>by
         have:=hgx b e.symm
         rw [q2]at this
         injection this with this
         exact(hnames q q1).1 this];exact z3⟩,hl2.2⟩
       refine⟨xs++us.toList,by rw [upd_same,List.length_append];exact ho',?_,fun r hr=>?_,fun b hb=>?_,fun e'=>(by cases e'),fun _=>?_,fun _ _ e'=>(by cases e')⟩
       ·rw [upd_same,List.flatten_append,List.flatten_cons,List.flatten_nil,List.append_nil]
        exact(hrx.kp kx).append (hl1.kp ky)
       ·rcases List.mem_append.1 hr with hr|hr
        ·exact hwx r hr
        ·rw [List.mem_singleton.1 hr]
         exact hrowl
       ·rw [upd_same]at hb
        show γ4 b=some n
        simp only [γ4,if_pos hb]
       ·rw [upd_same,List.flatten_append,List.flatten_cons,List.flatten_nil,List.append_nil]
        refine dx'.append hrx.1 dy' fun i j r r' u u' b g1 g2 g3 g4 g5 g6=>?_
        have q1:=(dx.1 i r u b g1 g3 g5).1
        obtain⟨q,q2,q3⟩:=hl3 j r' u' b g2 g4 g6
        rw [q1]at q3
        injection q3 with q3
        exact(hnames q q2).1 q3.symm)
     exact⟨_,_,h1.put d _ _ hN (RepV.one_iff.2 ⟨(upd_same _ _ _).symm,_,_,_,_,getB_hit _ _ _⟩)⟩
    ·cases he
   ·cases he
  ·cases he
 ·cases he
theorem appE_sound (h:Inv γ0 w0 N st a w η γ){d:Nat}(hN:d<N){t ty:TypeId}{x y:Operand}{st':St}(he:appE P st d t x y=some st'):
  ∃u w',(Builtin.append_ #[t,t] ty #[a.eval x,a.eval y]).run P w=.ok u w'∧R γ0 w0 N st' (a.put (some d) u) w':=by
 unfold appE at he
 split at he
 ·rename_i e hel
  split at he
  ·rename_i s by_ z hs hby hz
   split at he
   ·rename_i n fx rx fy ry hdst hsrc
    split at he
    ·rename_i hc
     obtain⟨hzs,hpos,hwid,hmx,hbytes⟩:=hc
     cases he
     obtain⟨A,c,hy,hcl,hfl,hcells⟩:=rowsOf_sound h (ev_sound h y) hsrc hwid
     rw [hy]
     -- what is appended to
     have hx:∃xs,w.ownsRow 0 e s (a.eval x) rx.length xs∧RepLs w γ rx.flatten xs∧(∀row∈rx,row.length=s)∧(∀b,(a.eval x).ownBlock=some b→γ b=some n)∧(fx=.ft→∀row∈rx,∀l∈row,∃v,l=.sc v)∧fx.nst=false:=by
      have hx:=ev_sound h x
      generalize a.eval x=u at hx
      unfold destOf at hdst
      split at hdst
      ·rename_i l hev
       rw [hev]at hx
       replace hx:=RepV.one_iff.1 hx
       split at hdst
       ·split at hdst
        ·cases hdst
         cases hx
         exact⟨[],World.ownsRow_nil w 0 e s,⟨rfl,fun j l hj=>by simp at hj⟩,fun row hr=>absurd hr (by simp),fun b hb=>(by cases hb),fun _ row hr=>absurd hr (by simp),rfl⟩
        ·cases hdst
       ·split at hdst
        ·rename_i fl e' s' rows hbx
         split at hdst
         ·rename_i hes
          cases hdst
          obtain⟨rfl,rfl,_,hns⟩:=hes
          obtain⟨rfl,_⟩:=hx
          obtain⟨xs,k1,k2,k3,k4,k5,_⟩:=h.blks n _ hbx
          rw [vw_of hns]at k2
          exact⟨xs,k1,k2,k3,k4,k5,hns⟩
         ·cases hdst
        ·cases hdst
       ·split at hdst
        ·rename_i m off len _ fl e' s' rows hbx
         split at hdst
         ·rename_i hes
          cases hdst
          obtain⟨rfl,rfl,_,rfl,hns⟩:=hes
          obtain⟨fl1,e1,s1,rows1,k1,k2,k3⟩:=hx
          rw [hbx]at k1
          cases k1
          obtain⟨xs,⟨ho1,ho2⟩,hr,hw,hgo,hff,_⟩:=h.blks _ _ hbx
          rw [vw_of hns]at hr
          have hlen:(rows.take len).length=len:=by rw [List.length_take];omega
          have hft:=take_rows hw (m:=len) (by omega)
          refine⟨xs.take (len*s'),?_,by rw [hft];exact hr.take _,fun row hr=>hw row (List.mem_of_mem_take hr),?_,fun hf row hr=>hff hf row (List.mem_of_mem_take hr),hns⟩
          ·have hxl:(xs.take (len*s')).length=len*s':=by
            have:=Nat.mul_le_mul_right s' (show len≤rows.length by omega)
            rw [List.length_take,ho1];omega
           rcases k3 with⟨k3,rfl,rfl⟩|⟨b,c,cap,k3,rfl,k4,k5,k6⟩
           ·rw [hlen]
            exact⟨hxl,.inl ⟨rfl,rfl⟩⟩
           ·rcases ho2 with⟨ho,_⟩|⟨b1,cap1,cur,ho,q0,q1,q2,q3,q4,q5⟩
            ·rw [ho]at k3;cases k3
            ·rw [ho]at k3
             cases k3
             rw [Nat.add_zero]at k6
             subst k6
             rw [hlen,Nat.zero_mul]
             refine⟨hxl,.inr ⟨b,cap,cur,rfl,q0,q1,k4,q3,q4,?_⟩⟩
             rw [←q5,List.take_take,Nat.min_eq_left (Nat.mul_le_mul_right s' (by omega))]
          ·intro b hb
           rcases k3 with⟨k3,rfl,rfl⟩|⟨b2,c,cap,k3,rfl,k4,k5,k6⟩
           ·cases hb
           ·cases hb
            exact hgo b2 (by rw [k3];rfl)
         ·cases hdst
        ·cases hdst
       ·cases hdst
      ·cases hdst
     have hn9:N≤999→n≠999:=by
      intro h9
      unfold destOf at hdst
      split at hdst
      ·split at hdst
       ·split at hdst
        ·cases hdst
         omega
        ·cases hdst
       ·split at hdst
        ·split at hdst
         ·rename_i hes
          cases hdst
          exact hes.2.2.1
         ·cases hdst
        ·cases hdst
       ·split at hdst
        ·split at hdst
         ·rename_i hes
          cases hdst
          exact hes.2.2.1
         ·cases hdst
        ·cases hdst
       ·cases hdst
      ·cases hdst
     obtain⟨xs,ho,hrx,hsx,hgx,hfx,hns⟩:=hx
     by_cases hne:ry=[]
     ·subst hne
      have hsl:∃A' cap,a.eval x=.slice A' rx.length cap∧rx.length≤cap:=by
       rcases ho.2 with⟨ho,hz⟩|⟨g,cap,cur,hg',_,_,h1,_⟩
       ·exact⟨none,0,by rw [ho,hz],by omega⟩
       ·exact⟨_,_,hg',h1⟩
      obtain⟨A',cap,hxe,hle⟩:=hsl
      refine⟨a.eval x,w,by rw [hxe];exact run_append_zero hel hs _ _ _ _ _ hle,?_⟩
      refine h.grow n d hN hn9 (v:=a.eval x) (xs:=xs) hgx (by simpa using ho) ⟨rfl,rfl,rfl,Nat.le_refl _,fun _ _ _=>rfl⟩ (.inl rfl) (fun hk=>by simpa using hrx.kp hk) (by simpa using hsx) (and_nst hns _) (fun hf=>by
       replace hf:=and_fl hf
       simpa using hfx hf.1)
     ·obtain⟨ad,us,rfl,hus,hul,hcell⟩:=hcells hne
      have hm:0<ry.length:=by
       cases ry with
       |nil=>exact absurd rfl hne
       |cons _ _=>simp
      obtain⟨v',w',hrun,ho',hg,hb,_⟩:=own_block_or (P:=P) (ty:=ty) hel hs hby hz hzs hpos ho ad ry.length c hm us hul hcell hus.oneC hmx hbytes
      refine⟨v',w',hrun,?_⟩
      refine h.grow n d hN hn9 (v:=a.eval x) (xs:=xs++us) hgx (by simpa using ho') hg hb (fun hk=>by
       rw [List.flatten_append]
       exact(hrx.append hus).kp hk) (fun row hr=>?_) (and_nst hns _) (fun hf row hr=>?_)
      ·rcases List.mem_append.1 hr with hr|hr
       ·exact hsx row hr
       ·exact hwid row hr
      ·replace hf:=and_fl hf
       rcases List.mem_append.1 hr with hr|hr
       ·exact hfx hf.1 row hr
       ·exact hfl hf.2 row hr
    ·cases he
   ·split at he
    ·rename_i hzs
     exact appN_sound h hN hel hs hby hz hzs (ev_sound h x) (ev_sound h y) he
    ·cases he
  ·cases he
 ·cases he
end
end PM
section PN
def storeN (st:St)(ls:List PL)(k n i off:Nat):Option St:=
 match leafsO st ls,getB st n with
 |some xs,some (.arr fl e s rows)=>if(fl.isFl||fl.isNd)=true∧nstOk st n ls=true then match rows[i]? with
  |some row=>if off+k≤row.length then some (.blk n (.arr .nd e s (rows.set i (row.take off++xs++row.drop (off+k))))::absL ls (.blk n (.arr .nd e s rows)::st))else none
  |none=>none
  else none
 |_,_=>none
def asN (ls:List PL):Option Blk→Bool
 |some (.arr fl _ _ _)=>fl.isNd||(fl.isFl&&!noRef ls)
 |_=>false
def storeE (P:Program)(st:St)(t:TypeId)(x y:Operand):Option St:=
 match szT P t,ev st y with
 |some k,.comp _ ls=>if ls.length=k∧ls.all PL.live=true then
   match ev st x with
   |.comp false [.ptr n off]=>match getB st n with
    |some (.box bs)=>if off+k≤bs.length then some (.blk n (.box (bs.take off++ls++bs.drop (off+k)))::st)else none
    |_=>none
   |.comp false [.pel n i off]=>if asN ls (getB st n)=true then storeN st ls k n i off else match leafsO st ls,getB (frz ls st) n with
    |some xs,some (.arr fl e s rows)=>match rows[i]? with
     |some row=>if off+k≤row.length∧fl.nst=false then some (.blk n (.arr (fl.and (xs.all Leaf.isSc)) e s (rows.set i (row.take off++xs++row.drop (off+k))))::frz ls st)else none
     |none=>none
    |_,_=>none
   |_=>none
  else none
 |_,_=>none
section
variable {P:Program}{γ0:Nat→Option Nat}{w0:World}{N:Nat}{st:St}{a:Act}{w:World}{η:Nat→Value}{γ γ':Nat→Option Nat}
theorem splice_get {α β:Type}{R:α→β→Prop}{xs ls:List α}{us vs:List β}{off k:Nat}(h1:us.length=xs.length∧∀(j:Nat) (l:α),xs[j]?=some l→∃u,us[j]?=some u∧R l u)(h2:vs.length=ls.length∧∀(j:Nat) (l:α),ls[j]?=some l→∃u,vs[j]?=some u∧R l u)
  (hk:ls.length=k) (ho:off+k≤xs.length):(us.take off++vs++us.drop (off+k)).length=(xs.take off++ls++xs.drop (off+k)).length∧∀(j:Nat) (l:α),(xs.take off++ls++xs.drop (off+k))[j]?=some l→∃u,(us.take off++vs++us.drop (off+k))[j]?=some u∧R l u:=by
 have l1:(xs.take off).length=off:=by simp;omega
 have l2:(us.take off).length=off:=by simp [h1.1];omega
 refine⟨by simp [h1.1,h2.1],fun j l hj=>?_⟩
 rw [List.append_assoc]at hj⊢
 rw [List.getElem?_append,l1]at hj
 rw [List.getElem?_append,l2]
 split at hj
 ·rename_i hlt
  rw [if_pos hlt]
  rw [List.getElem?_take,if_pos hlt]at hj⊢
  exact h1.2 j l hj
 ·rename_i hlt
  rw [if_neg hlt]
  rw [List.getElem?_append,hk]at hj
  rw [List.getElem?_append,h2.1,hk]
  split at hj
  ·rename_i hlt2
   rw [if_pos hlt2]
   exact h2.2 _ l hj
  ·rename_i hlt2
   rw [if_neg hlt2]
   rw [List.getElem?_drop]at hj⊢
   exact h1.2 _ l hj
theorem flatten_set {α:Type}{s:Nat}{rows:List (List α)}(hs:∀row∈rows,row.length=s){i off k:Nat}{row ys:List α}(hi:rows[i]?=some row)(ho:off+k≤row.length):
  (rows.set i (row.take off++ys++row.drop (off+k))).flatten=rows.flatten.take (i*s+off)++ys++rows.flatten.drop (i*s+(off+k)):=by
 obtain⟨hlt,hrow⟩:=gsS hi
 have e1:rows=rows.take i++row::rows.drop (i+1):=by
  have:=List.take_append_drop i rows
  rw [List.drop_eq_getElem_cons hlt,hrow]at this
  exact this.symm
 have l0:(rows.take i).length=i:=by simp;omega
 have l1:(rows.take i).flatten.length=i*s:=by
  rw [flatten_len (fun r hr=>hs r (List.mem_of_mem_take hr)),l0]
 have e2:rows.set i (row.take off++ys++row.drop (off+k))=rows.take i++(row.take off++ys++row.drop (off+k))::rows.drop (i+1):=by
  rw [List.set_eq_take_append_cons_drop,if_pos hlt]
 have e3:rows.flatten=(rows.take i).flatten++(row++(rows.drop (i+1)).flatten):=by
  conv=>lhs;rw [e1]
  rw [List.flatten_append,List.flatten_cons]
 rw [e2,List.flatten_append,List.flatten_cons,e3]
 clear e1 e2 e3 l0
 generalize (rows.take i).flatten=A at l1
 generalize (rows.drop (i+1)).flatten=B
 have t1:(A++(row++B)).take (i*s+off)=A++row.take off:=by
  rw [List.take_append,l1,List.take_of_length_le (by omega),List.take_append_of_le_length (by omega)]
  congr 2
  omega
 have t2:(A++(row++B)).drop (i*s+(off+k))=row.drop (off+k)++B:=by
  rw [List.drop_append,l1,List.drop_of_length_le (by omega),List.nil_append,List.drop_append_of_le_length (by omega)]
  congr 2
  omega
 rw [t1,t2]
 simp [List.append_assoc]
theorem take_splice {α:Type}(cs vs:List α){n o k:Nat}(hv:vs.length=k)(h:o+k≤n)(hn:n≤cs.length):(cs.take o++vs++cs.drop (o+k)).take n=(cs.take n).take o++vs++(cs.take n).drop (o+k):=by
 have l1:(cs.take o).length=o:=by simp;omega
 have l2:(cs.take o++vs).length=o+k:=by rw [List.length_append,l1,hv]
 rw [List.take_append,l2,List.take_of_length_le (by omega),List.take_take,List.drop_take]
 congr 2
 congr 1
 omega
theorem frz_blk {n:Nat}{b:Blk}:∀{ls:List PL} (_:getB (frz ls st) n=some b),∃b0,getB st n=some b0∧(∀fl e s rows,b0=.arr fl e s rows→b=.arr fl e s rows)
 |[],h=>⟨b,h,fun _ _ _ _ e=>e⟩
 |l::r,h=>by
  have key:∀m,getB (.kill m::frz r st) n=some b→∃b0,getB st n=some b0∧(∀fl e s rows,b0=.arr fl e s rows→b=.arr fl e s rows):=by
   intro m h
   simp only [getB]at h
   split at h
   ·cases h
   ·obtain⟨b1,h1,rfl⟩:=oms h
    obtain⟨b0,h2,h3⟩:=frz_blk h1
    refine⟨b0,h2,fun fl e s rows e0=>?_⟩
    rw [h3 fl e s rows e0]
    rfl
  cases l with
  |all m=>exact key m h
  |ref m o k=>exact key m h
  |_=>exact frz_blk (ls:=r) h
theorem run_store_at {t k b o:Nat}{u:Value}{cur:Array Value}{e:TypeId}(hs:szT P t=some k)(hl:u.cells.toList.length=k)(hh:w.heap[b]?=some (.cells cur e (0,0)))(hf:o+k≤cur.size)(h1:∀v∈u.cells.toList,v.oneCell'=true):
  (Instr.storeAt t (.pointer (some ⟨b,o,none⟩)) u).run P w=.ok () (w.setRow b (cur.toList.take o++u.cells.toList++cur.toList.drop (o+k)).toArray):=by
 have h:=run_storeCells_at P b o e u.cells.toList 0 cur w hh (by rw [hl];simpa using hf) h1
 rw [hl]at h
 simp only [Nat.add_zero]at h
 have hsz:u.cells.size=k:=by rw [←Array.length_toList];exact hl
 simp [Instr.storeAt,Instr.sureAddr,storeVar,run_size hs,hsz,h]
theorem splice_at {α:Type}{xs ls:List α}{o k:Nat}(hk:ls.length=k)(ho:o+k≤xs.length){j:Nat}{l:α}(h:(xs.take o++ls++xs.drop (o+k))[j]?=some l):(xs[j]?=some l∧(j<o∨o+k≤j))∨(ls[j-o]?=some l∧o≤j∧j<o+k):=by
 have l1:(xs.take o).length=o:=by simp;omega
 rw [List.append_assoc,List.getElem?_append,l1]at h
 split at h
 ·rename_i hlt
  rw [List.getElem?_take,if_pos hlt]at h
  exact .inl ⟨h,.inl hlt⟩
 ·rename_i hlt
  rw [List.getElem?_append,hk]at h
  split at h
  ·rename_i h2
   exact .inr ⟨h,by omega,by omega⟩
  ·rename_i h2
   rw [List.getElem?_drop]at h
   refine .inl ⟨?_,.inr (by omega)⟩
   rw [←h]
   congr 1
   omega
theorem Dis.splice {w:World}{γ:Nat→Option Nat}{n:Nat}{hd:Value}{ls xs:List Leaf}{us vs:List Value}{o k:Nat}(h1:Dis w γ n hd ls us)(h2:Dis w γ n hd xs vs)(hx:xs.length=k)(hv:vs.length=k)(ho:o+k≤ls.length)(hu:us.length=ls.length)
  (hc:∀(i j:Nat) (r r':List (List Leaf)) (u u':Value) (b:Nat),ls[i]?=some (.sl r)→xs[j]?=some (.sl r')→us[i]?=some u→vs[j]?=some u'→hdrBlock u=some b→hdrBlock u'≠some b):
  Dis w γ n hd (ls.take o++xs++ls.drop (o+k)) (us.take o++vs++us.drop (o+k)):=by
 refine⟨fun i r u b g1 g2 g3=>?_,fun i j r r' u u' b hne g1 g2 g3 g4 g5 g6=>?_⟩
 ·rcases splice_at hx ho g1 with⟨g4,g5⟩|⟨g4,g5,g6⟩<;>rcases splice_at hv (by omega) g2 with⟨q4,q5⟩|⟨q4,q5,q6⟩
  ·exact h1.1 i r u b g4 q4 g3
  ·omega
  ·omega
  ·exact h2.1 _ r u b g4 q4 g3
 ·rcases splice_at hx ho g1 with⟨a1,a2⟩|⟨a1,a2,a3⟩<;>rcases splice_at hv (by omega) g3 with⟨b1,b2⟩|⟨b1,b2,b3⟩<;>rcases splice_at hx ho g2 with⟨c1,c2⟩|⟨c1,c2,c3⟩<;>rcases splice_at hv (by omega) g4 with⟨d1,d2⟩|⟨d1,d2,d3⟩<;>first
   |omega
   |exact h1.2 i j r r' u u' b hne a1 c1 b1 d1 g5 g6
   |exact hc i (j-o) r r' u u' b a1 c1 b1 d1 g5 g6
   |exact hc j (i-o) r' r u' u b c1 a1 d1 b1 g6 g5
   |exact h2.2 (i-o) (j-o) r r' u u' b (by omega) a1 c1 b1 d1 g5 g6
theorem storeN_sound (h:Inv γ0 w0 N st a w η γ){t k n i off:Nat}{ls:List PL}{x y:Value}(hk:szT P t=some k)(hcl:y.cells.toList.length=k)(hlk:ls.length=k)(c1:RepPs (getB st) η γ w ls y.cells.toList)(c2:∀v∈y.cells.toList,v.oneCell'=true)(hx:RepP (getB st) η γ w (.pel n i off) x){st':St}(he:storeN st ls k n i off=some st'):
  ∃w',(Instr.storeAt t x y).run P w=.ok () w'∧R γ0 w0 N st' a w':=by
 unfold storeN at he
 split at he
 ·rename_i xs fl e s rows hxs hbx
  split at he
  ·rename_i hc
   obtain⟨hfx,hok⟩:=hc
   split at he
   ·rename_i row hrow
    split at he
    ·rename_i hle
     cases he
     have hnd:Inv γ0 w0 N (.blk n (.arr .nd e s rows)::st) a w η γ:=by
      cases hf:fl.isFl with
      |true=>
       have e':=isFl_iff hf
       subst e'
       exact h.toNd hbx
      |false=>
       rw [hf,Bool.false_or]at hfx
       have e':=isNd_iff hfx
       subst e'
       exact h.same hbx
     have hbn:getB (.blk n (.arr .nd e s rows)::st) n=some (.arr .nd e s rows):=getB_hit _ _ _
     obtain⟨γ2,h2,hb2,hk2,hm2⟩:=hnd.absL hbn rfl ls (fun m hm e'=>by
      obtain⟨j,hj⟩:=List.mem_iff_getElem?.1 hm
      rcases nstOk_get hok j _ hj with⟨v,h3⟩|h3|⟨n',_,_,_,h3,_,h4⟩
      ·cases h3
      ·cases h3
      ·cases h3;exact h4 e')
     have hg2n:∀b,γ b=some n→γ2 b=some n:=fun b hb=>by
      have:=hm2 b n hb
      rw [ite_self]at this
      exact this
     obtain⟨ys,⟨hyl,ho⟩,hr,hs,hgo1,hff1⟩:=hnd.blks n _ hbn
     replace hr:=hr.kp (Kp.vw (γ':=γ2) ⟨Nat.le_refl _,fun b _ hb=>⟨hk2 b hb,rfl⟩⟩ fun b hb=>⟨hg2n b hb,rfl⟩)
     have hgo:=fun b hb=>hg2n b (hgo1 b hb)
     have hff:=hff1.kp hg2n
     obtain⟨hl1,hl2,hl3⟩:=nst_leafs h c1 hxs hok (γ2:=γ2) (hd:=η n) (fun b m hb hm=>by
      have h3:=hm2 b m hb
      rw [if_pos hm]at h3
      refine⟨h3,fun e'=>?_⟩
      have h4:=hgo1 b e'
      rw [hb]at h4
      injection h4 with h4
      subst h4
      obtain⟨j,hj⟩:=List.mem_iff_getElem?.1 (hasAll_iff.1 hm)
      rcases nstOk_get hok j _ hj with⟨v,h3⟩|h3|⟨n',_,_,_,h3,_,h4⟩
      ·cases h3
      ·cases h3
      ·cases h3;exact h4 rfl)
     have hxl:xs.length=k:=by rw [←hl1.1,hcl]
     obtain⟨hilt,-⟩:=gsS hrow
     obtain⟨fl1,e1,s1,rows1,b,c,g1,g2,g3,rfl⟩:=hx
     rw [hbx]at g1
     cases g1
     rcases ho with⟨ho,hz⟩|⟨gb,cap,cur,hg',_,hh,q1,q2,q3,q4⟩
     ·omega
     rw [g3]at hg'
     injection hg' with hg1 hg2 hg3
     injection hg1 with hg1
     injection hg1 with hg1
     subst hg1
     have hrl:row.length=s:=hs row (List.mem_of_getElem? hrow)
     have hb1:(i+1)*s≤rows.length*s:=Nat.mul_le_mul_right _ hilt
     rw [Nat.succ_mul]at hb1
     have hcap:rows.length*s≤cap*s:=Nat.mul_le_mul_right _ (by omega)
     have hgb:γ2 b=some n:=hgo b (by rw [g3];rfl)
     have hob:(η n).ownBlock=some b:=by rw [g3];rfl
     refine⟨_,run_store_at hk hcl hh (by omega) c2,η,γ2,?_⟩
     have hfs:=flatten_set hs (ys:=xs) hrow hle
     have hcl2:cur.toList.length=cur.size:=by simp
     have hold:∀q,q≠b→(w.setRow b (cur.toList.take (i*s+off)++y.cells.toList++cur.toList.drop (i*s+off+k)).toArray).heap[q]?=w.heap[q]?:=fun q hq=>setRow_other w b q _ hq
     have kv:Kp w (w.setRow b (cur.toList.take (i*s+off)++y.cells.toList++cur.toList.drop (i*s+off+k)).toArray) (vw .nd n (η n) γ2) (vw .nd n (η n) γ2):=⟨by simp,fun q hq hv=>⟨hv,hold q fun e'=>by
      simp only [vw,Fl.nst,if_true]at hv
      split at hv
      ·rename_i h2
       exact h2.2 (by rw [e'];exact hob)
      ·cases hv⟩⟩
     have dd:=hff.2.1 rfl
     have hfln:rows.flatten.length=rows.length*s:=flatten_len hs
     refine h2.turn n _ _ hb2 b hgb _ ⟨rfl,rfl,by simp,fun _=>rfl⟩ (fun hn hkp=>⟨ys.take (i*s+off)++y.cells.toList++ys.drop (i*s+off+k),⟨by
       simp only [List.length_append,List.length_take,List.length_drop,hcl,hyl,List.length_set]
       omega,.inr ⟨b,cap,_,by rw [List.length_set,g3,hg2,hg3],Nat.zero_le _,setRow_heap w b cur _ _ _ hh,by rw [List.length_set];omega,q2,by
        simp only [List.size_toArray,List.length_append,List.length_take,List.length_drop,hcl,Array.length_toList]
        omega,by
        rw [List.toList_toArray,List.length_set,←q4]
        exact take_splice _ _ hcl (by omega) (by rw [hcl2];omega)⟩⟩,by
       rw [hfs,←Nat.add_assoc]
       exact splice_get (R:=RepL (w.setRow b _) (vw .nd n (η n) γ2)) (hr.kp kv) (hl1.kp kv) hxl (off:=i*s+off) (by omega),fun r hr'=>?_,hgo,fun e'=>(by cases e'),fun _=>?_,fun _ _ e'=>(by cases e')⟩)
     ·rcases List.mem_or_eq_of_mem_set hr' with hr'|rfl
      ·exact hs r hr'
      ·simp only [List.length_append,List.length_take,List.length_drop,hxl]
       omega
     ·rw [hfs,←Nat.add_assoc]
      have kd:∀q,γ2 q=some n→(η n).ownBlock≠some q→(w.setRow b (cur.toList.take (i*s+off)++y.cells.toList++cur.toList.drop (i*s+off+k)).toArray).heap[q]?=w.heap[q]?:=fun q _ hq=>hold q fun e'=>hq (by rw [e'];exact hob)
      refine(dd.kp (fun _ h=>h) kd).splice (hl2.kp (fun _ h=>h) kd) hxl hcl (by omega) (by omega) fun i j r r' u u' b' z1 z2 z3 z4 z5 z6=>?_
      obtain⟨m,hm1,hm3⟩:=hl3 j r' u' b' z2 z4 z6
      have z7:=((hff1.2.1 rfl).1 i r u b' z1 z3 z5).1
      rw [hm3]at z7
      injection z7 with z7
      subst z7
      obtain⟨j,hj⟩:=List.mem_iff_getElem?.1 (hasAll_iff.1 hm1)
      rcases nstOk_get hok j _ hj with⟨v,h3⟩|h3|⟨n',_,_,_,h3,_,h4⟩
      ·cases h3
      ·cases h3
      ·cases h3;exact h4 rfl
    ·cases he
   ·cases he
  ·cases he
 ·cases he
theorem storeE_sound (h:Inv γ0 w0 N st a w η γ){t:TypeId}{x y:Operand}{st':St}(he:storeE P st t x y=some st'):
  ∃w',(Instr.storeAt t (a.eval x) (a.eval y)).run P w=.ok () w'∧R γ0 w0 N st' a w':=by
 unfold storeE at he
 split at he
 ·rename_i k g ls hk hev
  have hy:=ev_sound h y
  rw [hev]at hy
  split at he
  ·rename_i hc
   obtain⟨hlk,hlive⟩:=hc
   obtain⟨c1,c2,c3⟩:=h.cells hy hlive
   have hcl:(a.eval y).cells.toList.length=k:=by rw [c1.1,hlk]
   have hx:=ev_sound h x
   split at he
   ·rename_i n off hevx
    rw [hevx]at hx
    split at he
    ·rename_i bs hbx
     split at he
     ·rename_i hle
      cases he
      obtain⟨ls',b,g1,g2,hxe⟩:=RepV.one_iff.1 hx
      obtain⟨b',us,e,g3,g4,g5,g6⟩:=h.blks n _ hbx
      rw [g2]at g3
      injection g3 with g3
      injection g3 with g3
      injection g3 with g3
      subst g3
      refine⟨_,by rw [hxe];exact run_store_at hk hcl g5 (by rw [←Array.length_toList,g6.1];exact hle) c2,η,γ,?_⟩
      exact h.turn n _ _ hbx b g4 _ trivial (fun hn hkp=>⟨b,_,e,g2,g4,setRow_heap w b us _ e _ g5,by
       have g6':=g6.kp hn hkp
       have c1':=c1.kp hn hkp
       have:=splice_get g6' c1' hlk hle
       rw [List.toList_toArray]
       exact this⟩)
     ·cases he
    ·cases he
   ·rename_i n i off hevx
    rw [hevx]at hx
    split at he
    ·exact storeN_sound h hk hcl hlk c1 c2 (RepV.one_iff.1 hx) he
    split at he
    ·rename_i xs fl e s rows hxs hbx
     split at he
     ·rename_i row hrow
      split at he
      ·rename_i hle
       obtain⟨hle,hns⟩:=hle
       cases he
       obtain⟨γ2,h2,hγ2⟩:=h.frz ls
       have hkk:∀b,γ b=none→γ2 b=none:=fun b hb=>by
        cases hg:γ2 b with
        |none=>rfl
        |some n=>rw [(hγ2 b n hg).1]at hb;cases hb
       have hxr:RepLs w γ2 xs (a.eval y).cells.toList:=leafsO_sound h hkk (fun b n hb ⟨l,hl,e⟩=>by
        cases hg:γ2 b with
        |none=>rfl
        |some m=>
         obtain⟨g1,g2⟩:=hγ2 b m hg
         rw [hb]at g1
         cases g1
         rcases e with rfl|⟨o,k,rfl⟩
         ·exact absurd rfl ((g2 _ hl).1 n rfl)
         ·exact absurd rfl ((g2 _ hl).2 n o k rfl)) c1 hxs
       have hxl:xs.length=k:=by rw [←hxr.1,hcl]
       obtain⟨ys,⟨hyl,ho⟩,hr,hs,hgo,hff,_⟩:=h2.blks n _ hbx
       rw [vw_of hns]at hr
       obtain⟨hilt,-⟩:=gsS hrow
       -- the old names are the new ones'
       obtain⟨fl1,e1,s1,rows1,b,c,g1,g2,g3,hxe⟩:=RepV.one_iff.1 hx
       rcases ho with⟨ho,hz⟩|⟨gb,cap,cur,hg',_,hh,q1,q2,q3,q4⟩
       ·omega
       rw [g3]at hg'
       injection hg' with hg1 hg2 hg3
       injection hg1 with hg1
       injection hg1 with hg1
       subst hg1
       have hs1:s1=s:=by
        obtain⟨b0,q5,q6⟩:=frz_blk hbx
        rw [g1]at q5
        cases q5
        have:=q6 _ _ _ _ rfl
        cases this
        rfl
       subst hs1
       have hrl:row.length=s1:=hs row (List.mem_of_getElem? hrow)
       have hb1:(i+1)*s1≤rows.length*s1:=Nat.mul_le_mul_right _ hilt
       rw [Nat.succ_mul]at hb1
       have hcs:cur.size=cap*s1:=q3
       have hcap:rows.length*s1≤cap*s1:=Nat.mul_le_mul_right _ (by omega)
       have hgb:γ2 b=some n:=hgo b (by rw [g3];rfl)
       refine⟨_,by rw [hxe];exact run_store_at hk hcl hh (by omega) c2,η,γ2,?_⟩
       have hfs:=flatten_set hs (ys:=xs) hrow hle
       have hcl2:cur.toList.length=cur.size:=by simp
       refine h2.turn n _ _ hbx b hgb _ ⟨rfl,rfl,by simp,fun e=>by rw [hns]at e;cases e⟩ (fun hn hkp=>⟨ys.take (i*s1+off)++(a.eval y).cells.toList++ys.drop (i*s1+off+k),⟨by
         simp only [List.length_append,List.length_take,List.length_drop,hcl,hyl,List.length_set]
         omega,.inr ⟨b,cap,_,by rw [List.length_set,g3,hg2,hg3],Nat.zero_le _,setRow_heap w b cur _ e _ hh,by rw [List.length_set];omega,q2,by
          simp only [List.size_toArray,List.length_append,List.length_take,List.length_drop,hcl,Array.length_toList]
          omega,by
          rw [List.toList_toArray,List.length_set,←q4]
          exact take_splice _ _ hcl (by omega) (by rw [hcl2];omega)⟩⟩,by
         rw [vw_of (and_nst hns _),hfs,Nat.add_assoc]
         rw [←Nat.add_assoc]
         have:=splice_get (R:=RepL (w.setRow b _) γ2) (hr.kp hkp) (hxr.kp hkp) hxl (off:=i*s1+off) (by rw [flatten_len hs];omega)
         exact this,fun r hr'=>?_,hgo,fun hf r hr'=>?_,fun e=>absurd e (nst_nd (and_nst hns _)),fun _ _ e=>absurd e (nst_fr (and_nst hns _))⟩)
       ·rcases List.mem_or_eq_of_mem_set hr' with hr'|rfl
        ·exact hs r hr'
        ·simp only [List.length_append,List.length_take,List.length_drop,hxl]
         omega
       ·replace hf:=and_fl hf
        rcases List.mem_or_eq_of_mem_set hr' with hr'|rfl
        ·exact hff hf.1 r hr'
        ·intro l hl
         have hrowf:=hff hf.1 row (List.mem_of_getElem? hrow)
         rcases List.mem_append.1 hl with hl|hl
         ·rcases List.mem_append.1 hl with hl|hl
          ·exact hrowf l (List.mem_of_mem_take hl)
          ·have:=List.all_eq_true.1 hf.2 l hl
           cases l with
           |sc v=>exact⟨v,rfl⟩
           |sl rows=>cases this
         ·exact hrowf l (List.mem_of_mem_drop hl)
      ·cases he
     ·cases he
    ·cases he
   ·cases he
  ·cases he
 ·cases he
end
end PN
section PO
inductive Arg where
 |val (agg:Bool) (ls:List Leaf)
 |row (cells:List Leaf) (off:Nat)
 |clo (f:FuncId) (boxes:List (List Leaf))
inductive RL where
 |ro (l:Leaf)
 |own (flat:Fl) (e s:Nat) (rows:List (List Leaf))
inductive Res where
 |comp (agg:Bool) (ls:List RL)
 |tup (vs:List (Bool×List RL))
def none0:Nat→Option Nat:=fun _=>none
def RowAt (w:World)(cells:List Leaf)(b o:Nat):Prop:=b<w.heap.size∧∃us:List Value,RepLs w none0 cells us∧∀(j:Nat) (v:Value),us[j]?=some v→w.cell? ⟨b,o+j,none⟩=some v
def RepA (w:World):Arg→Value→Prop
 |.val true ls,u=>∃us:List Value,u=.agg us.toArray∧RepLs w none0 ls us
 |.val false ls,u=>∃l,ls=[l]∧RepL w none0 l u
 |.row cells off,u=>∃b o,u=.pointer (some ⟨b,o+off,none⟩)∧RowAt w cells b o
 |.clo f boxes,u=>∃bs:List Nat,u=.func (.func f) #[] (bs.map fun b=>Value.pointer (some ⟨b,0,none⟩)).toArray∧bs.length=boxes.length∧∀(j:Nat) (b:Nat) (c:List Leaf),bs[j]?=some b→boxes[j]?=some c→RowAt w c b 0
def RepRL (B:Nat)(w:World)(γ:Nat→Option Nat)(hdr:Nat→Value)(i:Nat):RL→Value→Prop
 |.ro l,u=>RepL w γ l u
 |.own fl e s rows,u=>u=hdr i∧∃xs,w.ownsRow 0 e s u rows.length xs∧RepLs w (vwR B fl i u γ) rows.flatten xs∧(∀row∈rows,row.length=s)∧(∀b,u.ownBlock=some b→B≤b∧γ b=some i)∧FlOk fl w (hid B γ) i u rows xs
def RepRs (B:Nat)(w:World)(γ:Nat→Option Nat)(hdr:Nat→Value)(i:Nat)(ls:List RL)(us:List Value):Prop:=
 us.length=ls.length∧∀(k:Nat) (l:RL),ls[k]?=some l→∃u,us[k]?=some u∧RepRL B w γ hdr (i+k) l u
def RepRC (B:Nat)(w:World)(γ:Nat→Option Nat)(hdr:Nat→Value)(i:Nat):Bool→List RL→Value→Prop
 |true,ls,u=>∃us:List Value,u=.agg us.toArray∧RepRs B w γ hdr i ls us
 |false,ls,u=>∃l,ls=[l]∧RepRL B w γ hdr i l u
def RepR (B:Nat)(w:World)(γ:Nat→Option Nat)(hdr:Nat→Value):Res→Value→Prop
 |.comp g ls,u=>RepRC B w γ hdr 0 g ls u
 |.tup vs,u=>∃us:List Value,u=.tuple us.toArray∧us.length=vs.length∧∀(j:Nat) (g:Bool) (ls:List RL),vs[j]?=some (g,ls)→∃u,us[j]?=some u∧RepRC B w γ hdr (64*j) g ls u
def isAt:Res→Nat→RL→Prop
 |.comp _ ls,i,l=>ls[i]?=some l
 |.tup vs,i,l=>∃(j k:Nat) (g:Bool) (ls:List RL),vs[j]?=some (g,ls)∧ls[k]?=some l∧i=64*j+k
def AtR (r:Res)(hdr:Nat→Value)(b k:Nat):Prop:=hdrBlock (hdr k)=some b∨∀fl e s rows,isAt r k (.own fl e s rows)→fl.nst=true
def Post (w:World)(r:Res)(e:Ending)(w':World):Prop:=
 ∃u γ hdr,e=.returned u∧Below w.heap.size w w'∧(∀b,b<w.heap.size→γ b≠none)∧(∀b k,w.heap.size≤b→γ b=some k→b<w'.heap.size∧AtR r hdr b k)∧RepR w.heap.size w' γ hdr r u
def RepAs (w:World)(args:List Arg)(vs:List Value):Prop:=vs.length=args.length∧∀(j:Nat) (x:Arg),args[j]?=some x→∃v,vs[j]?=some v∧RepA w x v
def Sound (P:Program)(f:FuncId)(m:List Arg→Option Res):Prop:=
 ∀args r vs w,GlobOk none0 w→m args=some r→RepAs w args vs→Calls P f vs.toArray w (Post w r)
def boxesO (st:St):List Nat→Option (List (List Leaf))
 |[]=>some []
 |n::r=>match getB st n with
  |some (.box bs)=>match leafsO st bs,boxesO st r with
   |some x,some y=>some (x::y)
   |_,_=>none
  |_=>none
def argO (st:St):PV→Option Arg
 |.comp true ls=>(leafsO st ls).map (.val true)
 |.comp false [l]=>match l with
  |.ptr n off=>match getB st n with
   |some (.box bs)=>(leafsO st bs).map fun c=>.row c off
   |_=>none
  |.pel n i off=>match getB st n with
   |some (.arr _ _ _ rows)=>(rows[i]?).map fun c=>.row c off
   |_=>none
  |.prow cells off=>some (.row cells off)
  |.clo f boxes=>some (.clo f boxes)
  |.fn f cap=>(boxesO st cap).map (.clo f)
  |l=>(leafO st l).map fun x=>.val false [x]
 |_=>none
def argsO (st:St):List Operand→Option (List Arg)
 |[]=>some []
 |x::r=>match argO st (ev st x),argsO st r with
  |some a,some b=>some (a::b)
  |_,_=>none
def pvRL (d i:Nat):RL→PL
 |.ro l=>toPL l
 |.own _ _ _ _=>.all (d+1000*i)
def pvs (d:Nat):Nat→List RL→List PL
 |_,[]=>[]
 |i,l::r=>pvRL d i l::pvs d (i+1) r
def pvT (d:Nat):Nat→List (Bool×List RL)→List (Bool×List PL)
 |_,[]=>[]
 |j,(g,ls)::r=>(g,pvs d (64*j) ls)::pvT d (j+1) r
def pvR (d:Nat):Res→PV
 |.comp g ls=>.comp g (pvs d 0 ls)
 |.tup vs=>.tup (pvT d 0 vs)
def owns (d:Nat):Nat→List RL→List (Nat×Blk)
 |_,[]=>[]
 |i,.ro _::r=>owns d (i+1) r
 |i,.own fl e s rows::r=>(d+1000*i,.arr fl e s rows)::owns d (i+1) r
def ownsT (d:Nat):Nat→List (Bool×List RL)→List (Nat×Blk)
 |_,[]=>[]
 |j,(_,ls)::r=>owns d (64*j) ls++ownsT d (j+1) r
def ownsR (d:Nat):Res→List (Nat×Blk)
 |.comp _ ls=>owns d 0 ls
 |.tup vs=>ownsT d 0 vs
def clrL:List (Nat×Blk)→St→St
 |[],st=>st
 |(n,_)::r,st=>clr n (clrL r st)
def withB:List (Nat×Blk)→St→St
 |[],st=>st
 |(n,b)::r,st=>.blk n b::withB r st
def impE (st:St)(d:Nat)(r:Res):St:=.slot d (pvR d r)::withB (ownsR d r) (clrL (ownsR d r) st)
def callE (st:St)(d:Nat)(m:List Arg→Option Res)(args:List Operand):Option St:=
 match argsO st args with
 |some xs=>(m xs).map (impE st d)
 |none=>none
section
variable {P:Program}{γ0:Nat→Option Nat}{w0:World}{N:Nat}{st:St}{a:Act}{w:World}{η:Nat→Value}{γ γ':Nat→Option Nat}
theorem all_none (b:Nat)(_:γ b=none):none0 b=none:=rfl
theorem box_at (h:Inv γ0 w0 N st a w η γ){n:Nat}{bs:List PL}{xs:List Leaf}(hb:getB st n=some (.box bs))(hx:leafsO st bs=some xs):∃b,η n=.pointer (some ⟨b,0,none⟩)∧RowAt w xs b 0:=by
 obtain⟨b,us,t,h1,h2,h3,h4⟩:=h.blks n _ hb
 refine⟨b,h1,heap_lt h3,us.toList,leafsO_sound h (γ':=none0) all_none (fun _ _ _ _=>rfl) h4 hx,fun j v hj=>?_⟩
 simp only [World.cell?,h3,Nat.zero_add]
 simpa using hj
theorem boxesO_sound (h:Inv γ0 w0 N st a w η γ):∀{cap:List Nat} {boxes:List (List Leaf)} (_:boxesO st cap=some boxes),∃bs:List Nat,cap.map η=(bs.map fun b=>Value.pointer (some ⟨b,0,none⟩))∧bs.length=boxes.length∧∀(j:Nat) (b:Nat) (c:List Leaf),bs[j]?=some b→boxes[j]?=some c→RowAt w c b 0
 |[],boxes,hb=>by
  simp only [boxesO,Option.some.injEq]at hb
  subst hb
  exact⟨[],rfl,rfl,fun j b c hj=>by simp at hj⟩
 |n::r,boxes,hb=>by
  unfold boxesO at hb
  split at hb
  ·rename_i bs hbx
   split at hb
   ·rename_i x y h1 h2
    cases hb
    obtain⟨b,g1,g2⟩:=box_at h hbx h1
    obtain⟨bs',g3,g4,g5⟩:=boxesO_sound h h2
    refine⟨b::bs',by rw [List.map_cons,List.map_cons,g1,g3],by simp [g4],fun j b' c hj hc=>?_⟩
    cases j with
    |zero=>
     simp only [List.getElem?_cons_zero,Option.some.injEq]at hj hc
     subst hj;subst hc
     exact g2
    |succ j=>exact g5 j b' c (by simpa using hj) (by simpa using hc)
   ·cases hb
  ·cases hb
theorem argO_sound (h:Inv γ0 w0 N st a w η γ){x:PV}{u:Value}{r:Arg}(hx:RepV (getB st) η γ w x u)(hr:argO st x=some r):RepA w r u:=by
 unfold argO at hr
 split at hr
 ·obtain⟨xs,h1,rfl⟩:=oms hr
  obtain⟨us,rfl,h2⟩:=hx
  exact⟨us,rfl,leafsO_sound h (γ':=none0) all_none (fun _ _ _ _=>rfl) h2 h1⟩
 ·rename_i l
  replace hx:=RepV.one_iff.1 hx
  split at hr
  ·rename_i n off
   split at hr
   ·rename_i bs hbx
    obtain⟨xs,h1,rfl⟩:=oms hr
    obtain⟨ls,b,h2,h3,rfl⟩:=hx
    obtain⟨b',g1,g2⟩:=box_at h hbx h1
    rw [h3]at g1
    cases g1
    exact⟨b,0,by rw [Nat.zero_add],g2⟩
   ·cases hr
  ·rename_i n i off
   split at hr
   ·rename_i fl e s rows hbx
    obtain⟨row,h1,rfl⟩:=oms hr
    obtain⟨fl',e',s',rows',b,c,h2,h3,h4,rfl⟩:=hx
    rw [hbx]at h2
    cases h2
    obtain⟨us,h5,h6,h7⟩:=arr_row (h.blks n _ hbx) h4 h1
    have hlt:b<w.heap.size:=by
     obtain⟨xs,⟨hxl,ho⟩,_⟩:=h.blks n _ hbx
     rw [h4]at ho
     rcases ho with⟨ho,_⟩|⟨g,cap,cur,hg',_,hh,_⟩
     ·cases ho
     ·cases hg';exact heap_lt hh
    exact⟨b,i*s,rfl,hlt,us,h5.kp ⟨Nat.le_refl _,fun _ _ _=>⟨rfl,rfl⟩⟩,h6⟩
   ·cases hr
  ·rename_i cells off
   cases hr
   obtain⟨b,o,us,h1,h2,rfl,h3,h4⟩:=hx
   exact⟨b,o,rfl,h2,us,h3.kp ⟨Nat.le_refl _,fun _ _ _=>⟨rfl,rfl⟩⟩,h4⟩
  ·rename_i f boxes
   cases hr
   obtain⟨bs,h1,h2,h3⟩:=hx
   refine⟨bs,h1,h2,fun j b c hj hc=>?_⟩
   obtain⟨_,g2,us,g3,g4⟩:=h3 j b c hj hc
   exact⟨g2,us,g3.kp ⟨Nat.le_refl _,fun _ _ _=>⟨rfl,rfl⟩⟩,fun i v hi=>by rw [Nat.zero_add];exact g4 i v hi⟩
  ·rename_i f cap
   obtain⟨boxes,h1,rfl⟩:=oms hr
   obtain⟨rfl,_⟩:=hx
   obtain⟨bs,h2,h3,h4⟩:=boxesO_sound h h1
   exact⟨bs,by rw [h2],h3,h4⟩
  ·obtain⟨y,h1,rfl⟩:=oms hr
   exact⟨y,rfl,leafO_sound h (γ':=none0) all_none (fun _ _ _ _=>rfl) hx h1⟩
 ·cases hr
theorem argsO_sound (h:Inv γ0 w0 N st a w η γ):∀{xs:List Operand} {rs:List Arg} (_:argsO st xs=some rs),RepAs w rs (xs.map a.eval)
 |[],rs,hr=>by
  simp only [argsO,Option.some.injEq]at hr
  subst hr
  exact⟨rfl,fun j x hj=>by simp at hj⟩
 |x::r,rs,hr=>by
  unfold argsO at hr
  split at hr
  ·rename_i y z h1 h2
   cases hr
   obtain⟨h3,h4⟩:=argsO_sound h h2
   refine⟨by simpa using h3,fun j k hj=>?_⟩
   cases j with
   |zero=>
    simp only [List.getElem?_cons_zero,Option.some.injEq]at hj
    subst hj
    exact⟨_,rfl,argO_sound h (ev_sound h x) h1⟩
   |succ j=>
    obtain⟨v,h5,h6⟩:=h4 j k (by simpa using hj)
    exact⟨v,by simpa using h5,h6⟩
  ·cases hr
theorem getB_blks (os:List (Nat×Blk)){n:Nat}{b:Blk}(h:getB (withB os st) n=some b):(n,b)∈os∨((∀b',(n,b')∉os)∧getB st n=some b):=by
 induction os with
 |nil=>exact .inr ⟨fun _ hm=>absurd hm (by simp),h⟩
 |cons p r ih=>
  obtain⟨m,b0⟩:=p
  simp only [withB,getB]at h
  split at h
  ·rename_i e
   cases h
   subst e
   exact .inl List.mem_cons_self
  ·rename_i e
   rcases ih h with h1|⟨h1,h2⟩
   ·exact .inl (List.mem_cons_of_mem _ h1)
   ·refine .inr ⟨fun b' hm=>?_,h2⟩
    rcases List.mem_cons.1 hm with e'|hm
    ·injection e' with e1 _
     exact e e1.symm
    ·exact h1 b' hm
theorem getB_blks_of {os:List (Nat×Blk)}{n:Nat}(h:∀b,(n,b)∉os):getB (withB os st) n=getB st n:=by
 induction os with
 |nil=>rfl
 |cons p r ih=>
  obtain⟨m,b0⟩:=p
  simp only [withB,getB]
  rw [if_neg (fun e=>h b0 (by rw [e];exact List.mem_cons_self))]
  exact ih fun b hb=>h b (List.mem_cons_of_mem _ hb)
theorem getB_blks_some {os:List (Nat×Blk)}{n:Nat}{b:Blk}(h:(n,b)∈os):(getB (withB os st) n).isSome=true:=by
 induction os with
 |nil=>cases h
 |cons p r ih=>
  obtain⟨m,b0⟩:=p
  simp only [withB,getB]
  split
  ·rfl
  ·rename_i e
   rcases List.mem_cons.1 h with e'|h
   ·injection e' with e1 _
    exact absurd e1.symm e
   ·exact ih h
theorem clr_keep {d n:Nat}(h:getB st n=none):getB (clr d st) n=none:=by
 unfold clr
 split
 ·simp only [getB,h,Option.map_none,ite_self]
 ·exact h
theorem clrL_none:∀{os:List (Nat×Blk)} {n:Nat} {b:Blk} (_:(n,b)∈os),getB (clrL os st) n=none
 |(m,b0)::r,n,b,h=>by
  rcases List.mem_cons.1 h with e|h
  ·injection e with e1 _
   subst e1
   exact clr_none _ _
  ·exact clr_keep (clrL_none h)
theorem Inv.clrL (h:Inv γ0 w0 N st a w η γ):∀os:List (Nat×Blk),∃γ',Inv γ0 w0 N (clrL os st) a w η γ'
 |[]=>⟨γ,h⟩
 |(m,b0)::r=>by
  obtain⟨γ1,h1⟩:=Inv.clrL h r
  exact h1.clr m
end
end PO
section PP
section
variable {P:Program}{γ0:Nat→Option Nat}{w0:World}{N:Nat}{st:St}{a:Act}{w:World}{η:Nat→Value}{γ γ':Nat→Option Nat}
theorem owns_mem {d:Nat}:∀{ls:List RL} {i n:Nat} {b:Blk} (_:(n,b)∈owns d i ls),∃k fl e s rows,ls[k]?=some (.own fl e s rows)∧n=d+1000*(i+k)∧b=.arr fl e s rows
 |.ro l::r,i,n,b,h=>by
  obtain⟨k,fl,e,s,rows,h1,h2,h3⟩:=owns_mem (ls:=r) (i:=i+1) h
  exact⟨k+1,fl,e,s,rows,by simpa using h1,by rw [h2];congr 2;omega,h3⟩
 |.own fl e s rows::r,i,n,b,h=>by
  rcases List.mem_cons.1 h with e'|h
  ·cases e'
   exact⟨0,fl,e,s,rows,rfl,rfl,rfl⟩
  ·obtain⟨k,fl,e,s,rows,h1,h2,h3⟩:=owns_mem (ls:=r) (i:=i+1) h
   exact⟨k+1,fl,e,s,rows,by simpa using h1,by rw [h2];congr 2;omega,h3⟩
theorem owns_of {d:Nat}:∀{ls:List RL} {i k:Nat} {fl:Fl} {e s:Nat} {rows:List (List Leaf)} (_:ls[k]?=some (.own fl e s rows)),(d+1000*(i+k),Blk.arr fl e s rows)∈owns d i ls
 |[],i,k,fl,e,s,rows,h=>by simp at h
 |l::r,i,k,fl,e,s,rows,h=>by
  cases k with
  |zero=>
   simp only [List.getElem?_cons_zero,Option.some.injEq]at h
   subst h
   exact List.mem_cons_self
  |succ k=>
   have ih:=owns_of (d:=d) (ls:=r) (i:=i+1) (k:=k) (by simpa using h)
   have e1:i+1+k=i+(k+1):=by omega
   rw [e1]at ih
   cases l with
   |ro l=>exact ih
   |own fl e s rows=>exact List.mem_cons_of_mem _ ih
theorem ownsT_mem {d:Nat}:∀{vs:List (Bool×List RL)} {j n:Nat} {b:Blk} (_:(n,b)∈ownsT d j vs),∃k g ls,vs[k]?=some (g,ls)∧(n,b)∈owns d (64*(j+k)) ls
 |(g,ls)::r,j,n,b,h=>by
  rcases List.mem_append.1 h with h|h
  ·exact⟨0,g,ls,rfl,h⟩
  ·obtain⟨k,g,ls,h1,h2⟩:=ownsT_mem (vs:=r) (j:=j+1) h
   exact⟨k+1,g,ls,by simpa using h1,by have e1:j+1+k=j+(k+1):=by omega
                                       rw [e1]at h2;exact h2⟩
theorem ownsT_of {d:Nat}:∀{vs:List (Bool×List RL)} {j k:Nat} {g:Bool} {ls:List RL} (_:vs[k]?=some (g,ls)) {p:Nat×Blk} (_:p∈owns d (64*(j+k)) ls),p∈ownsT d j vs
 |[],j,k,g,ls,h,p,hp=>by simp at h
 |(g0,ls0)::r,j,k,g,ls,h,p,hp=>by
  cases k with
  |zero=>
   simp only [List.getElem?_cons_zero,Option.some.injEq]at h
   cases h
   exact List.mem_append_left _ hp
  |succ k=>
   refine List.mem_append_right _ (ownsT_of (vs:=r) (j:=j+1) (k:=k) (by simpa using h) ?_)
   have e1:j+1+k=j+(k+1):=by omega
   rw [e1];exact hp
theorem pvs_get {d:Nat}:∀{ls:List RL} {i k:Nat} {p:PL} (_:(pvs d i ls)[k]?=some p),∃l,ls[k]?=some l∧p=pvRL d (i+k) l
 |[],i,k,p,h=>by simp [pvs]at h
 |l::r,i,k,p,h=>by
  cases k with
  |zero=>
   simp only [pvs,List.getElem?_cons_zero,Option.some.injEq]at h
   exact⟨l,rfl,h.symm⟩
  |succ k=>
   obtain⟨l',h1,h2⟩:=pvs_get (ls:=r) (i:=i+1) (k:=k) (by simpa [pvs]using h)
   exact⟨l',by simpa using h1,by rw [h2];congr 1;omega⟩
theorem pvs_len {d:Nat}:∀{ls:List RL} {i:Nat},(pvs d i ls).length=ls.length
 |[],i=>rfl
 |l::r,i=>by simp [pvs,pvs_len (ls:=r)]
theorem pvT_get {d:Nat}:∀{vs:List (Bool×List RL)} {j k:Nat} {g:Bool} {ps:List PL} (_:(pvT d j vs)[k]?=some (g,ps)),∃ls,vs[k]?=some (g,ls)∧ps=pvs d (64*(j+k)) ls
 |[],j,k,g,ps,h=>by simp [pvT]at h
 |(g0,ls0)::r,j,k,g,ps,h=>by
  cases k with
  |zero=>
   simp only [pvT,List.getElem?_cons_zero,Option.some.injEq,Prod.mk.injEq]at h
   obtain⟨rfl,rfl⟩:=h
   exact⟨ls0,rfl,rfl⟩
  |succ k=>
   obtain⟨l',h1,h2⟩:=pvT_get (vs:=r) (j:=j+1) (k:=k) (by simpa [pvT]using h)
   exact⟨l',by simpa using h1,by rw [h2];congr 2;omega⟩
theorem pvT_len {d:Nat}:∀{vs:List (Bool×List RL)} {j:Nat},(pvT d j vs).length=vs.length
 |[],j=>rfl
 |(g,ls)::r,j=>by simp [pvT,pvT_len (vs:=r)]
theorem getS_withB (os:List (Nat×Blk))(t:Nat):getS (withB os st) t=getS st t:=by
 induction os with
 |nil=>rfl
 |cons p r ih=>exact ih
open Classical in
theorem Inv.imp (h:Inv γ0 w0 N st a w η γ)(os:List (Nat×Blk))(d:Nat)(hd9:N≤999→∀i,d+1000*i≠999)(w':World)(γr:Nat→Option Nat)(hdr:Nat→Value)
  (hfree:∀n b,(n,b)∈os→getB st n=none) (hk:Below w.heap.size w w') (hold:∀b,b<w.heap.size→γr b=none→γ b=none) (hnew:∀b k,w.heap.size≤b→γr b=some k→b<w'.heap.size∧(hdrBlock (hdr k)=some b∨∀b',(d+1000*k,b')∈os→nstB (some b')=true))
  (hB:∀n b,(n,b)∈os→∃i fl e s rows u,n=d+1000*i∧b=.arr fl e s rows∧RepRL w.heap.size w' γr hdr i (.own fl e s rows) u):
  ∃η' γ',Inv γ0 w0 N (withB os st) a w' η' γ'∧(∀i b,(d+1000*i,b)∈os→η' (d+1000*i)=hdr i)∧Kp w' w' γr γ':=by
 let isN:Nat→Prop:=fun n=>∃b,(n,b)∈os
 let η':Nat→Value:=fun n=>if isN n then hdr ((n-d)/1000)else η n
 let γ':Nat→Option Nat:=fun b=>if b<w.heap.size then γ b else match γr b with
  |some k=>if isN (d+1000*k)then some (d+1000*k)else none
  |none=>none
 have hη:∀i b,(d+1000*i,b)∈os→η' (d+1000*i)=hdr i:=by
  intro i b hb
  have:(d+1000*i-d)/1000=i:=by omega
  simp only [η']
  rw [if_pos ⟨b,hb⟩,this]
 have hηo:∀n,¬isN n→η' n=η n:=fun n hn=>if_neg hn
 have hγo:∀b,b<w.heap.size→γ' b=γ b:=fun b hb=>if_pos hb
 have hkr:Kp w' w' γr γ':=⟨Nat.le_refl _,fun b hb hg=>by
  by_cases hge:b<w.heap.size
  ·exact⟨by rw [show γ' b=γ b from if_pos hge];exact hold b hge hg,rfl⟩
  ·refine⟨?_,rfl⟩
   simp only [γ',if_neg hge,hg]⟩
 have hkw:Kp w w' γ γ':=⟨hk.size,fun b hb hg=>⟨by rw [hγo b hb];exact hg,hk.block b hb⟩⟩
 have hne:∀m b',getB st m=some b'→¬isN m:=fun m b' hm ⟨b,hb⟩=>by rw [hfree m b hb]at hm;cases hm
 have hn:Nm (getB st) (getB (withB os st)) η η' (fun _=>True):=by
  intro m b' _ hb
  have hm:=hne m b' hb
  have hget:getB (withB os st) m=getB st m:=getB_blks_of fun b hb'=>hm ⟨b,hb'⟩
  refine⟨hηo m hm,?_⟩
  cases b' with
  |arr fl e s rows=>exact⟨fl,rows,by rw [hget];exact hb,rfl⟩
  |box ls=>exact⟨ls,by rw [hget];exact hb⟩
 have hlive:∀b n,γ b=some n→b<w.heap.size:=fun b n hb=>(h.live b n hb).1
 refine⟨η',γ',?_,hη,hkr⟩
 refine {h with slots:=fun t=>by rw [getS_withB];exact(h.slots t).kp hn hkw,blks:=fun m b' hb=>?_,live:=fun b m hb=>?_,low:=fun b hb hg=>?_,os:=hk.os.trans h.os,tape:=hk.tape.trans h.tape,output:=hk.output.trans h.output,size:=Nat.le_trans h.size hk.size,pin:=fun h9 b ls hb hbx=>?_,pinA:=h.pinA.to fun h9 fl e s rows hbx=>?_}
 ·rcases getB_blks os hb with hb|⟨hno,hb⟩
  ·obtain⟨i,fl,e,s,rows,u,rfl,rfl,hu,xs,h1,h2,h3,h4,h5⟩:=hB m b' hb
   refine⟨xs,by rw [hη i _ hb,←hu];exact h1,by rw [hη i _ hb,←hu];exact h2.kp (Kp.vwI (fun b hb hg=>(hkr.2 b hb hg).1) fun b hb2 hg2=>by
    simp only [γ',if_neg (Nat.not_lt.2 hb2),hg2]
    rw [if_pos ⟨_,hb⟩]),h3,fun b hbb=>?_,by
     rw [hη i _ hb,←hu]
     exact h5.kp fun b hg=>by
      obtain⟨hb2,hg2⟩:=hid_some hg
      simp only [γ',if_neg (Nat.not_lt.2 hb2),hg2]
      rw [if_pos ⟨_,hb⟩]⟩
   rw [hη i _ hb,←hu]at hbb
   obtain⟨h6,h7⟩:=h4 b hbb
   simp only [γ',if_neg (Nat.not_lt.2 h6),h7]
   rw [if_pos ⟨_,hb⟩]
  ·have hm:¬isN m:=fun⟨b,hb'⟩=>hno b hb'
   have h1:=h.blks m b' hb
   have hg:∀b0,γ b0=some m→γ' b0=some m∧w'.heap[b0]?=w.heap[b0]?:=fun b0 hb0=>⟨by rw [hγo b0 (hlive b0 m hb0)];exact hb0,hk.block b0 (hlive b0 m hb0)⟩
   cases b' with
   |box ls=>exact RepB.kp_box hn hkw h1 (hηo m hm) hg
   |arr fl e s rows=>exact RepB.kp_arr hkw h1 (hηo m hm) hg
 ·by_cases hlt:b<w.heap.size
  ·rw [hγo b hlt]at hb
   obtain⟨h1,h2,h3⟩:=h.live b m hb
   obtain⟨b',hb'⟩:=Option.isSome_iff_exists.1 h3
   have hm:=hne m b' hb'
   rw [getB_blks_of fun b hb'=>hm ⟨b,hb'⟩]
   exact⟨Nat.lt_of_lt_of_le hlt hk.size,by rw [hηo m hm];exact h2,h3⟩
  ·simp only [γ',if_neg hlt]at hb
   cases hgr:γr b with
   |none=>simp [hgr]at hb
   |some k=>
    simp only [hgr]at hb
    by_cases hN:isN (d+1000*k)
    ·rw [if_pos hN]at hb
     cases hb
     obtain⟨b0,hb0⟩:=hN
     obtain⟨h1,h2⟩:=hnew b k (Nat.le_of_not_lt hlt) hgr
     refine⟨h1,h2.imp (fun h2=>by rw [hη k b0 hb0];exact h2) (fun h2=>?_),getB_blks_some hb0⟩
     obtain⟨b1,hb1⟩:=Option.isSome_iff_exists.1 (getB_blks_some (st:=st) hb0)
     rw [hb1]
     rcases getB_blks os hb1 with h9|⟨h9,_⟩
     ·exact h2 b1 h9
     ·exact absurd hb0 (h9 b0)
    ·rw [if_neg hN]at hb
     cases hb
 ·have hlt:b<w.heap.size:=Nat.lt_of_lt_of_le hb h.size
  obtain⟨h1,h2⟩:=h.low b hb hg
  exact⟨by rw [hγo b hlt];exact h1,(hk.block b hlt).trans h2⟩
 ·rcases getB_blks os hbx with hbx|⟨hno,hbx⟩
  ·obtain⟨i,fl,e,s,rows,u,_,e2,_⟩:=hB _ _ hbx
   cases e2
  ·by_cases hlt:b<w.heap.size
   ·rw [hγo b hlt]at hb
    exact h.pin h9 b ls hb hbx
   ·simp only [γ',if_neg hlt]at hb
    cases hgr:γr b with
    |none=>simp [hgr]at hb
    |some k=>
     simp only [hgr]at hb
     by_cases hN:isN (d+1000*k)
     ·rw [if_pos hN]at hb
      injection hb with hb
      rw [hb]at hN
      obtain⟨b0,hb0⟩:=hN
      exact absurd hb0 (hno b0)
     ·rw [if_neg hN]at hb
      cases hb
 ·rcases getB_blks os hbx with hbx|⟨hno,hbx⟩
  ·obtain⟨i,_,_,_,_,_,e1,_⟩:=hB _ _ hbx
   exact absurd e1.symm (hd9 h9 i)
  ·exact⟨hηo 999 fun⟨b,hb'⟩=>hno b hb',fl,rows,hbx,rfl⟩
theorem impE_soundG (h:Inv γ0 w0 N st a w η γ){d:Nat}(hN:d<N){r:Res}{w':World}{u:Value}{γr:Nat→Option Nat}{hdr:Nat→Value}(hk:Below w.heap.size w w')
  (hold:∀γ1:Nat→Option Nat,(∀b n,γ1 b=some n→(hdrBlock (η n)=some b∨nstB (getB (clrL (ownsR d r) st) n)=true)∧(getB (clrL (ownsR d r) st) n).isSome=true)→∀b,b<w.heap.size→γr b=none→γ1 b=none) (hnew:∀b k,w.heap.size≤b→γr b=some k→b<w'.heap.size∧AtR r hdr b k) (hr:RepR w.heap.size w' γr hdr r u):R γ0 w0 N (impE st d r) (a.put (some d) u) w':=by
 obtain⟨γ1,h1⟩:=h.clrL (ownsR d r)
 replace hold:=hold γ1 fun b n hb=>(h1.live b n hb).2
 obtain⟨η2,γ2,h2,hη,hkr⟩:=h1.imp (ownsR d r) d (fun h9 i=>by omega) w' γr hdr (fun n b hb=>clrL_none hb) hk hold (fun b k hb hg=>⟨(hnew b k hb hg).1,(hnew b k hb hg).2.imp id fun hA b' hb'=>by
  cases r with
  |comp g ls=>
   obtain⟨k',fl,e,s,rows,h3,h4,rfl⟩:=owns_mem hb'
   exact hA fl e s rows (by
    have:k'=k:=by omega
    subst this
    exact h3)
  |tup vs=>
   obtain⟨j,g,ls,h8,hb'⟩:=ownsT_mem hb'
   obtain⟨k',fl,e,s,rows,h3,h4,rfl⟩:=owns_mem hb'
   exact hA fl e s rows ⟨j,k',g,ls,h8,h3,by omega⟩⟩) (fun n b hb=>by
  cases r with
  |comp g ls=>
   obtain⟨k,fl,e,s,rows,h3,h4,h5⟩:=owns_mem hb
   have:∃u,RepRL w.heap.size w' γr hdr (0+k) (.own fl e s rows) u:=by
    cases g with
    |true=>
     obtain⟨us,_,h6⟩:=hr
     obtain⟨u,_,h7⟩:=h6.2 k _ h3
     exact⟨u,h7⟩
    |false=>
     obtain⟨l,rfl,h6⟩:=hr
     cases k with
     |zero=>simp at h3;subst h3;exact⟨_,h6⟩
     |succ k=>simp at h3
   obtain⟨u,h6⟩:=this
   exact⟨0+k,fl,e,s,rows,u,h4,h5,h6⟩
  |tup vs=>
   obtain⟨j,g,ls,h8,hb⟩:=ownsT_mem hb
   obtain⟨k,fl,e,s,rows,h3,h4,h5⟩:=owns_mem hb
   obtain⟨us,_,_,h9⟩:=hr
   obtain⟨u,_,h10⟩:=h9 j g ls h8
   rw [Nat.zero_add]at h4
   have:∃u,RepRL w.heap.size w' γr hdr (64*j+k) (.own fl e s rows) u:=by
    cases g with
    |true=>
     obtain⟨us,_,h6⟩:=h10
     obtain⟨u,_,h7⟩:=h6.2 k _ h3
     exact⟨u,h7⟩
    |false=>
     obtain⟨l,rfl,h6⟩:=h10
     cases k with
     |zero=>simp at h3;subst h3;exact⟨_,h6⟩
     |succ k=>simp at h3
   obtain⟨u,h6⟩:=this
   exact⟨64*j+k,fl,e,s,rows,u,h4,h5,h6⟩)
 refine⟨η2,γ2,h2.put d _ _ hN ?_⟩
 have leaf:∀(i:Nat) (l:RL) (c:Value),RepRL w.heap.size w' γr hdr i l c→(∀fl e s rows,l=.own fl e s rows→(d+1000*i,Blk.arr fl e s rows)∈ownsR d r)→RepP (getB (withB (ownsR d r) (clrL (ownsR d r) st))) η2 γ2 w' (pvRL d i l) c:=by
  intro i l c hl hm
  cases l with
  |ro l=>exact toPL_sound (hl.kp hkr)
  |own fl e s rows=>
   have hm:=hm _ _ _ _ rfl
   refine⟨by rw [hη i _ hm];exact hl.1,?_⟩
   obtain⟨b,hb⟩:=Option.isSome_iff_exists.1 (getB_blks_some (st:=clrL (ownsR d r) st) hm)
   rcases getB_blks _ hb with h5|⟨h5,_⟩
   ·have:∃fl e s rows,b=.arr fl e s rows:=by
     cases r with
     |comp g ls=>obtain⟨k,fl,e,s,rows,_,_,h8⟩:=owns_mem h5;exact⟨fl,e,s,rows,h8⟩
     |tup vs=>
      obtain⟨j,g,ls,_,h5⟩:=ownsT_mem h5
      obtain⟨k,fl,e,s,rows,_,_,h8⟩:=owns_mem h5
      exact⟨fl,e,s,rows,h8⟩
    obtain⟨fl,e,s,rows,rfl⟩:=this
    exact⟨fl,e,s,rows,hb⟩
   ·exact absurd hm (h5 _)
 have comp:∀(i:Nat) (g:Bool) (ls:List RL) (c:Value),RepRC w.heap.size w' γr hdr i g ls c→(∀(k:Nat) fl e s rows,ls[k]?=some (.own fl e s rows)→(d+1000*(i+k),Blk.arr fl e s rows)∈ownsR d r)→RepC (getB (withB (ownsR d r) (clrL (ownsR d r) st))) η2 γ2 w' g (pvs d i ls) c:=by
  intro i g ls c hc hm
  cases g with
  |true=>
   obtain⟨us,rfl,h3,h4⟩:=hc
   refine⟨us,rfl,by rw [h3,pvs_len],fun k p hp=>?_⟩
   obtain⟨l,h5,rfl⟩:=pvs_get hp
   obtain⟨u,h6,h7⟩:=h4 k l h5
   exact⟨u,h6,leaf (i+k) l u h7 (fun fl e s rows e'=>hm k fl e s rows (e'▸h5))⟩
  |false=>
   obtain⟨l,rfl,h3⟩:=hc
   exact⟨pvRL d i l,rfl,leaf i l c h3 (fun fl e s rows e'=>hm 0 fl e s rows (by rw [e'];rfl))⟩
 cases r with
 |comp g ls=>exact comp 0 g ls u hr (fun k fl e s rows hk=>owns_of hk)
 |tup vs=>
  obtain⟨us,rfl,h3,h4⟩:=hr
  refine⟨us,rfl,by rw [h3,pvT_len],fun j g ps hp=>?_⟩
  obtain⟨ls,h5,rfl⟩:=pvT_get hp
  obtain⟨u,h6,h7⟩:=h4 j g ls h5
  refine⟨u,h6,?_⟩
  rw [Nat.zero_add]
  exact comp (64*j) g ls u h7 (fun k fl e s rows hk=>ownsT_of h5 (by rw [Nat.zero_add];exact owns_of hk))
theorem impE_sound (h:Inv γ0 w0 N st a w η γ){d:Nat}(hN:d<N){r:Res}{e:Ending}{w':World}(hp:Post w r e w'):∃u,e=.returned u∧R γ0 w0 N (impE st d r) (a.put (some d) u) w':=by
 obtain⟨u,γr,hdr,rfl,hk,hold,hnew,hr⟩:=hp
 exact⟨u,rfl,impE_soundG h hN hk (fun _ _ b hb hg=>absurd hg (hold b hb)) hnew hr⟩
end
end PP
end Go.Proofs.YtfgkfcfplodaoaaGreatDoor
