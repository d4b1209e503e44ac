
import Derived.Test.YtfgkfcfplodaoaaGreatDoorG0
import Derived.Deep.MidRow
import Derived.Laws.BytesArg
import Derived.Laws.Tables
import Derived.Laws.StructEq
set_option linter.unusedSimpArgs false
set_option linter.unusedVariables false
set_option maxRecDepth 100000
namespace Go.Proofs.YtfgkfcfplodaoaaGreatDoor
open Go Go.RowKit
section PA
inductive Leaf where
 |sc (v:Value)
 |sl (rows:List (List Leaf))
inductive PL where
 |sc (v:Value)
 |nil
 |sl (rows:List (List Leaf))
 |all (n:Nat)
 |ref (n off len:Nat)
 |ptr (n off:Nat)
 |pel (n i off:Nat)
 |prow (cells:List Leaf) (off:Nat)
 |fn (f:FuncId) (cap:List Nat)
 |clo (f:FuncId) (boxes:List (List Leaf))
 |xl (v:Value) (rows:List (List Leaf))
 |lit (n:Nat)
 |dead
 |udf
inductive PV where
 |comp (agg:Bool) (ls:List PL)
 |tup (vs:List (Bool×List PL))
abbrev one (l:PL):PV:=.comp false [l]
inductive Fl where
 |no
 |ft
 |ns
 |nd
 |fr (S:Nat→Prop) (h:Nat→Option Obj)
def Fl.nst:Fl→Bool
 |.no=>false
 |.ft=>false
 |.ns=>true
 |.nd=>true
 |.fr _ _=>true
def Fl.and (f:Fl):Bool→Fl
 |true=>f
 |false=>.no
def Fl.isNd:Fl→Bool
 |.nd=>true
 |_=>false
def Fl.isFl:Fl→Bool
 |.ft=>true
 |_=>false
inductive Blk where
 |box (ls:List PL)
 |arr (flat:Fl) (e s:Nat) (rows:List (List Leaf))
inductive Entry where
 |slot (s:Nat) (v:PV)
 |blk (n:Nat) (b:Blk)
 |kill (n:Nat)
abbrev St:=List Entry
def PL.names:PL→Nat→Bool
 |.all m,n|.ref m _ _,n|.ptr m _,n|.pel m _ _,n|.lit m,n=>m==n
 |.fn _ cap,n=>cap.contains n
 |_,_=>false
def PL.kill (n:Nat)(l:PL):PL:=if l.names n then .dead else l
def PV.kill (n:Nat):PV→PV
 |.comp g ls=>.comp g (ls.map (PL.kill n))
 |.tup vs=>.tup (vs.map fun v=>(v.1,v.2.map (PL.kill n)))
def Blk.kill (n:Nat):Blk→Blk
 |.box ls=>.box (ls.map (PL.kill n))
 |b=>b
def getS:St→Nat→PV
 |[],_=>one .dead
 |.slot s v::r,t=>if s=t then v else getS r t
 |.blk _ _::r,t=>getS r t
 |.kill n::r,t=>(getS r t).kill n
def getB:St→Nat→Option Blk
 |[],_=>none
 |.slot _ _::r,n=>getB r n
 |.blk m b::r,n=>if m=n then some b else getB r n
 |.kill m::r,n=>if m=n then none else(getB r n).map (Blk.kill m)
inductive RepL (w:World)(γ:Nat→Option Nat):Leaf→Value→Prop
 |sc {v}:v.oneCell'=true→RepL w γ (.sc v) v
 |emp {A c}:c≤maxLen→RepL w γ (.sl []) (.slice A 0 c)
 |sl {rows:List (List Leaf)} {b off s cap:Nat} (val:Nat→Nat→Value):γ b=none→b<w.heap.size→rows.length≤cap→cap≤maxLen→(∀row∈rows,row.length=s)→
   (∀(i:Nat) (row:List Leaf) (j:Nat) (l:Leaf),rows[i]?=some row→row[j]?=some l→w.cell? ⟨b,off+i*s+j,none⟩=some (val i j))→
   (∀(i:Nat) (row:List Leaf) (j:Nat) (l:Leaf),rows[i]?=some row→row[j]?=some l→RepL w γ l (val i j))→RepL w γ (.sl rows) (.slice (some ⟨b,off,none⟩) rows.length cap)
def RepLs (w:World)(γ:Nat→Option Nat)(ls:List Leaf)(us:List Value):Prop:=us.length=ls.length∧∀(j:Nat) (l:Leaf),ls[j]?=some l→∃u,us[j]?=some u∧RepL w γ l u
def RepP (hb:Nat→Option Blk)(η:Nat→Value)(γ:Nat→Option Nat)(w:World):PL→Value→Prop
 |.sc v,u=>u=v∧v.oneCell'=true
 |.nil,u=>u=.slice none 0 0
 |.sl rows,u=>RepL w γ (.sl rows) u
 |.all n,u=>u=η n∧∃fl e s rows,hb n=some (.arr fl e s rows)
 |.ref n off len,u=>∃fl e s rows,hb n=some (.arr fl e s rows)∧off+len≤rows.length∧
   ((η n=.slice none 0 0∧u=.slice none 0 0∧len=0)∨∃b c cap,η n=.slice (some ⟨b,0,none⟩) rows.length c∧u=.slice (some ⟨b,off*s,none⟩) len cap∧len≤cap∧cap≤maxLen∧cap+off=c)
 |.ptr n off,u=>∃ls b,hb n=some (.box ls)∧η n=.pointer (some ⟨b,0,none⟩)∧u=.pointer (some ⟨b,off,none⟩)
 |.pel n i off,u=>∃fl e s rows b c,hb n=some (.arr fl e s rows)∧i<rows.length∧η n=.slice (some ⟨b,0,none⟩) rows.length c∧u=.pointer (some ⟨b,i*s+off,none⟩)
 |.prow cells off,u=>∃(b o:Nat) (us:List Value),γ b=none∧b<w.heap.size∧u=.pointer (some ⟨b,o+off,none⟩)∧RepLs w γ cells us∧∀(j:Nat) (v:Value),us[j]?=some v→w.cell? ⟨b,o+j,none⟩=some v
 |.fn f cap,u=>u=.func (.func f) #[] (cap.map η).toArray∧∀n∈cap,∃ls b,hb n=some (.box ls)∧η n=.pointer (some ⟨b,0,none⟩)
 |.clo f boxes,u=>∃bs:List Nat,u=.func (.func f) #[] (bs.map fun b=>Value.pointer (some ⟨b,0,none⟩)).toArray∧bs.length=boxes.length∧
   ∀(j b:Nat) (c:List Leaf),bs[j]?=some b→boxes[j]?=some c→γ b=none∧b<w.heap.size∧∃us:List Value,RepLs w γ c us∧∀(i:Nat) (v:Value),us[i]?=some v→w.cell? ⟨b,i,none⟩=some v
 |.xl v rows,u=>u=v∧RepL w γ (.sl rows) u
 |.lit n,u=>∃ls b,hb n=some (.box ls)∧η n=.pointer (some ⟨b,0,none⟩)∧u=.slice (some ⟨b,0,none⟩) 1 1
 |.dead,_=>True
 |.udf,u=>u=undef
def RepPs (hb:Nat→Option Blk)(η:Nat→Value)(γ:Nat→Option Nat)(w:World)(ls:List PL)(us:List Value):Prop:=
 us.length=ls.length∧∀(j:Nat) (l:PL),ls[j]?=some l→∃u,us[j]?=some u∧RepP hb η γ w l u
def RepC (hb:Nat→Option Blk)(η:Nat→Value)(γ:Nat→Option Nat)(w:World):Bool→List PL→Value→Prop
 |true,ls,u=>∃us:List Value,u=.agg us.toArray∧RepPs hb η γ w ls us
 |false,ls,u=>∃l,ls=[l]∧RepP hb η γ w l u
def RepV (hb:Nat→Option Blk)(η:Nat→Value)(γ:Nat→Option Nat)(w:World):PV→Value→Prop
 |.comp g ls,u=>RepC hb η γ w g ls u
 |.tup vs,u=>∃us:List Value,u=.tuple us.toArray∧us.length=vs.length∧∀(j:Nat) (g:Bool) (ls:List PL),vs[j]?=some (g,ls)→∃u,us[j]?=some u∧RepC hb η γ w g ls u
def hdrBlock:Value→Option Nat
 |.slice (some a) _ _=>some a.block
 |.pointer (some a)=>some a.block
 |_=>none
def vw (fl:Fl)(n:Nat)(hd:Value)(γ:Nat→Option Nat):Nat→Option Nat:=fun b=>if fl.nst=true then(if γ b=some n∧hd.ownBlock≠some b then none else some 0)else γ b
def vwR (B:Nat)(fl:Fl)(i:Nat)(hd:Value)(γ:Nat→Option Nat):Nat→Option Nat:=fun b=>if fl.nst=true then(if γ b=some i∧hd.ownBlock≠some b∧B≤b then none else some 0)else γ b
def hid (B:Nat)(γ:Nat→Option Nat):Nat→Option Nat:=fun b=>if b<B then none else γ b
theorem hid_some {B:Nat}{γ:Nat→Option Nat}{b n:Nat}(h:hid B γ b=some n):B≤b∧γ b=some n:=by
 unfold hid at h
 split at h
 ·cases h
 ·exact⟨by omega,h⟩
theorem hid_of {B:Nat}{γ:Nat→Option Nat}{b n:Nat}(h1:B≤b)(h:γ b=some n):hid B γ b=some n:=by
 unfold hid
 rw [if_neg (by omega)]
 exact h
def Fl.ok:Fl→Bool
 |.no=>false
 |.ft=>true
 |.ns=>true
 |.nd=>true
 |.fr _ _=>false
def Dis (w:World)(γ:Nat→Option Nat)(n:Nat)(hd:Value)(ls:List Leaf)(us:List Value):Prop:=
 (∀(i:Nat) (r:List (List Leaf)) (u:Value) (b:Nat),ls[i]?=some (.sl r)→us[i]?=some u→hdrBlock u=some b→γ b=some n∧hd.ownBlock≠some b∧∃cs t,w.heap[b]?=some (.cells cs t (0,0)))∧
 ∀(i j:Nat) (r r':List (List Leaf)) (u u':Value) (b:Nat),i≠j→ls[i]?=some (.sl r)→ls[j]?=some (.sl r')→us[i]?=some u→us[j]?=some u'→hdrBlock u=some b→hdrBlock u'≠some b
theorem Dis.kp {w w':World}{γ γ':Nat→Option Nat}{n m:Nat}{hd:Value}{ls:List Leaf}{us:List Value}(h:Dis w γ n hd ls us)(hg:∀b,γ b=some n→γ' b=some m)(hw:∀b,γ b=some n→hd.ownBlock≠some b→w'.heap[b]?=w.heap[b]?):Dis w' γ' m hd ls us:=
 ⟨fun i r u b h1 h2 h3=>by
  obtain⟨h4,h5,h6⟩:=h.1 i r u b h1 h2 h3
  exact⟨hg b h4,h5,by rw [hw b h4 h5];exact h6⟩,h.2⟩
def FlOk (fl:Fl)(w:World)(γ:Nat→Option Nat)(n:Nat)(hd:Value)(rows:List (List Leaf))(xs:List Value):Prop:=
 (fl=.ft→∀row∈rows,∀l∈row,∃v,l=Leaf.sc v)∧(fl=.nd→Dis w γ n hd rows.flatten xs)∧∀S h,fl=.fr S h→hd.ownBlock=none∧∀b,S b→γ b=some n∧w.heap[b]?=h b
theorem FlOk.kpW {fl:Fl}{w w':World}{γ γ':Nat→Option Nat}{n m:Nat}{hd:Value}{rows:List (List Leaf)}{xs:List Value}(h:FlOk fl w γ n hd rows xs)(hg:∀b,γ b=some n→γ' b=some m)(hw:∀b,γ b=some n→hd.ownBlock≠some b→w'.heap[b]?=w.heap[b]?):FlOk fl w' γ' m hd rows xs:=
 ⟨h.1,fun e=>(h.2.1 e).kp hg hw,fun S q e=>by
  obtain⟨h1,h2⟩:=h.2.2 S q e
  exact⟨h1,fun b hb=>⟨hg b (h2 b hb).1,(hw b (h2 b hb).1 (by rw [h1];simp)).trans (h2 b hb).2⟩⟩⟩
theorem FlOk.kp {fl:Fl}{w:World}{γ γ':Nat→Option Nat}{n m:Nat}{hd:Value}{rows:List (List Leaf)}{xs:List Value}(h:FlOk fl w γ n hd rows xs)(hg:∀b,γ b=some n→γ' b=some m):FlOk fl w γ' m hd rows xs:=h.kpW hg fun _ _ _=>rfl
def RepB (hb:Nat→Option Blk)(η:Nat→Value)(γ:Nat→Option Nat)(w:World)(n:Nat):Blk→Prop
 |.box ls=>∃b us t,η n=.pointer (some ⟨b,0,none⟩)∧γ b=some n∧w.heap[b]?=some (.cells us t (0,0))∧RepPs hb η γ w ls us.toList
 |.arr fl e s rows=>∃xs,w.ownsRow 0 e s (η n) rows.length xs∧RepLs w (vw fl n (η n) γ) rows.flatten xs∧(∀row∈rows,row.length=s)∧(∀b,(η n).ownBlock=some b→γ b=some n)∧FlOk fl w γ n (η n) rows xs
def nstB:Option Blk→Bool
 |some (.arr fl _ _ _)=>fl.nst
 |_=>false
def szB (w:World)(b:Nat):Option Nat:=match w.heap[b]? with
 |some (.cells c _ _)=>some c.size
 |_=>none
def PinA (γ0:Nat→Option Nat)(w0:World)(N:Nat)(st:St)(η:Nat→Value):Prop:=N≤999→∀fl e s rows,getB st 999=some (.arr fl e s rows)→(η 999=.slice none 0 0∧rows.length=0)∨∃b cap,η 999=.slice (some ⟨b,0,none⟩) rows.length cap∧γ0 b=some 999∧szB w0 b=some (cap*s)
structure Inv (γ0:Nat→Option Nat)(w0:World)(N:Nat)(st:St)(a:Act)(w:World)(η:Nat→Value)(γ:Nat→Option Nat):Prop where
 slots:∀t,RepV (getB st) η γ w (getS st t) (a.tmps.getD t undef)
 blks:∀n b,getB st n=some b→RepB (getB st) η γ w n b
 live:∀b n,γ b=some n→b<w.heap.size∧(hdrBlock (η n)=some b∨nstB (getB st n)=true)∧(getB st n).isSome=true
 low:∀b,b<w0.heap.size→γ0 b=none→γ b=none∧w.heap[b]?=w0.heap[b]?
 os:w.os=w0.os
 tape:w.tape=w0.tape
 output:w.output=w0.output
 size:w0.heap.size≤w.heap.size
 defers:a.defers=[]
 width:a.tmps.size=N
 glob:GlobOk γ0 w0
 pin:N≤999→∀b ls,γ b=some 999→getB st 999=some (.box ls)→γ0 b=some 999
 pinA:PinA γ0 w0 N st η
def R (γ0:Nat→Option Nat)(w0:World)(N:Nat)(st:St)(a:Act)(w:World):Prop:=∃η γ,Inv γ0 w0 N st a w η γ
theorem heap_lt {w:World}{b:Nat}{o:Obj}(h:w.heap[b]?=some o):b<w.heap.size:=by
 rcases Nat.lt_or_ge b w.heap.size with h1|h1
 ·exact h1
 ·rw [Array.getElem?_eq_none h1]at h;cases h
def Kp (w w':World)(γ γ':Nat→Option Nat):Prop:=w.heap.size≤w'.heap.size∧∀b,b<w.heap.size→γ b=none→γ' b=none∧w'.heap[b]?=w.heap[b]?
theorem Kp.refl (w:World)(γ:Nat→Option Nat):Kp w w γ γ:=⟨Nat.le_refl _,fun _ _ h=>⟨h,rfl⟩⟩
theorem Kp.cell {w w':World}{γ γ':Nat→Option Nat}(h:Kp w w' γ γ'){b o:Nat}(hb:b<w.heap.size)(hg:γ b=none):w'.cell? ⟨b,o,none⟩=w.cell? ⟨b,o,none⟩:=
 World.cell?_of_block (a:=⟨b,o,none⟩) (h.2 b hb hg).2
theorem RepL.kp {w w':World}{γ γ':Nat→Option Nat}(hk:Kp w w' γ γ'){l:Leaf}{v:Value}(h:RepL w γ l v):RepL w' γ' l v:=by
 induction h with
 |sc h=>exact .sc h
 |emp h=>exact .emp h
 |sl val hg hb hl hc hs hcell _ ih=>
  exact .sl val (hk.2 _ hb hg).1 (Nat.lt_of_lt_of_le hb hk.1) hl hc hs (fun i row j l h1 h2=>(hk.cell hb hg).trans (hcell i row j l h1 h2)) ih
theorem RepLs.kp {w w':World}{γ γ':Nat→Option Nat}(hk:Kp w w' γ γ'){ls:List Leaf}{us:List Value}(h:RepLs w γ ls us):RepLs w' γ' ls us:=
 ⟨h.1,fun j l hj=>by obtain⟨u,h1,h2⟩:=h.2 j l hj;exact⟨u,h1,h2.kp hk⟩⟩
theorem vw_of {fl:Fl}(h:fl.nst=false)(n:Nat)(hd:Value)(γ:Nat→Option Nat):vw fl n hd γ=γ:=by
 funext b
 simp [vw,h]
theorem vwR_of {fl:Fl}(h:fl.nst=false)(B n:Nat)(hd:Value)(γ:Nat→Option Nat):vwR B fl n hd γ=γ:=by
 funext b
 simp [vwR,h]
theorem Kp.vw {w w':World}{γ γ':Nat→Option Nat}(hk:Kp w w' γ γ'){fl:Fl}{n:Nat}{hd:Value}(hg:∀b,γ b=some n→γ' b=some n∧w'.heap[b]?=w.heap[b]?):Kp w w' (vw fl n hd γ) (vw fl n hd γ'):=by
 refine⟨hk.1,fun b hb h=>?_⟩
 unfold Go.Proofs.YtfgkfcfplodaoaaGreatDoor.vw at h⊢
 by_cases hf:fl.nst=true
 ·rw [if_pos hf]at h⊢
  split at h
  ·rename_i h1
   obtain⟨h2,h3⟩:=hg b h1.1
   rw [if_pos ⟨h2,h1.2⟩]
   exact⟨rfl,h3⟩
  ·cases h
 ·rw [if_neg hf]at h⊢
  exact hk.2 b hb h
theorem Kp.vw0 {w:World}{γ γ':Nat→Option Nat}(h0:∀b,γ b=none→γ' b=none){fl:Fl}{n:Nat}{hd:Value}(hg:∀b,γ b=some n→γ' b=none):Kp w w (Go.Proofs.YtfgkfcfplodaoaaGreatDoor.vw fl n hd γ) γ':=by
 refine⟨Nat.le_refl _,fun b hb h=>⟨?_,rfl⟩⟩
 unfold Go.Proofs.YtfgkfcfplodaoaaGreatDoor.vw at h
 split at h
 ·split at h
  ·rename_i h1
   exact hg b h1.1
  ·cases h
 ·exact h0 b h
theorem Kp.vwI {w:World}{γ γ':Nat→Option Nat}(hk:∀b,b<w.heap.size→γ b=none→γ' b=none){fl:Fl}{n i B:Nat}{hd:Value}(hg:∀b,B≤b→γ b=some i→γ' b=some n):Kp w w (vwR B fl i hd γ) (Go.Proofs.YtfgkfcfplodaoaaGreatDoor.vw fl n hd γ'):=by
 refine⟨Nat.le_refl _,fun b hb h=>⟨?_,rfl⟩⟩
 unfold Go.Proofs.YtfgkfcfplodaoaaGreatDoor.vw
 unfold vwR at h
 by_cases hf:fl.nst=true
 ·rw [if_pos hf]at h⊢
  split at h
  ·rename_i h1
   rw [if_pos ⟨hg b h1.2.2 h1.1,h1.2.1⟩]
  ·cases h
 ·rw [if_neg hf]at h⊢
  exact hk b hb h
theorem Kp.vwO {w:World}{γ γ':Nat→Option Nat}{fl:Fl}(hf:fl.nst=true){n i B:Nat}{hd:Value}(hg:∀b,γ b=some n→B≤b∧γ' b=some i):Kp w w (Go.Proofs.YtfgkfcfplodaoaaGreatDoor.vw fl n hd γ) (vwR B fl i hd γ'):=by
 refine⟨Nat.le_refl _,fun b hb h=>⟨?_,rfl⟩⟩
 unfold Go.Proofs.YtfgkfcfplodaoaaGreatDoor.vw at h
 unfold vwR
 rw [if_pos hf]at h⊢
 split at h
 ·rename_i h1
  obtain⟨h2,h3⟩:=hg b h1.1
  rw [if_pos ⟨h3,h1.2,h2⟩]
 ·cases h
def Nm (hb hb':Nat→Option Blk)(η η':Nat→Value)(p:Nat→Prop):Prop:=
 ∀m b,p m→hb m=some b→η' m=η m∧match b with
  |.arr _ e s rows=>∃fl' rows',hb' m=some (.arr fl' e s rows')∧rows'.length=rows.length
  |.box _=>∃ls',hb' m=some (.box ls')
section
variable {hb hb':Nat→Option Blk}{η η':Nat→Value}{γ γ':Nat→Option Nat}{w w':World}{n:Nat}{p:Nat→Prop}
theorem RepP.kp (hn:Nm hb hb' η η' p)(hk:Kp w w' γ γ'){l:PL}{u:Value}(hl:∀m,l.names m=true→p m)(h:RepP hb η γ w l u):RepP hb' η' γ' w' l u:=by
 cases l with
 |sc v=>exact h
 |nil=>exact h
 |sl rows=>exact RepL.kp hk h
 |all m=>
  have hm:p m:=hl m (by simp [PL.names])
  obtain⟨h1,fl,e,s,rows,h2⟩:=h
  obtain⟨h3,fl',rows',h4,_⟩:=hn m _ hm h2
  exact⟨h1.trans h3.symm,fl',e,s,rows',h4⟩
 |ref m off len=>
  have hm:p m:=hl m (by simp [PL.names])
  obtain⟨fl,e,s,rows,h2,h3,h4⟩:=h
  obtain⟨h5,fl',rows',h6,h7⟩:=hn m _ hm h2
  refine⟨fl',e,s,rows',h6,by omega,?_⟩
  rw [h5,h7]
  exact h4
 |ptr m off=>
  have hm:p m:=hl m (by simp [PL.names])
  obtain⟨ls,b,h1,h2,h3⟩:=h
  obtain⟨h5,ls',h4⟩:=hn m _ hm h1
  exact⟨ls',b,h4,h5.trans h2,h3⟩
 |pel m i off=>
  have hm:p m:=hl m (by simp [PL.names])
  obtain⟨fl,e,s,rows,b,c,h2,h3,h4,h5⟩:=h
  obtain⟨h6,fl',rows',h7,h8⟩:=hn m _ hm h2
  exact⟨fl',e,s,rows',b,c,h7,by omega,by rw [h8];exact h6.trans h4,h5⟩
 |prow cells off=>
  obtain⟨b,o,us,h1,h2,h3,h4,h5⟩:=h
  exact⟨b,o,us,(hk.2 b h2 h1).1,Nat.lt_of_lt_of_le h2 hk.1,h3,h4.kp hk,fun j v hj=>(hk.cell h2 h1).trans (h5 j v hj)⟩
 |fn f cap=>
  obtain⟨h1,h2⟩:=h
  have he:cap.map η'=cap.map η:=List.map_congr_left fun m hc=>by
   obtain⟨ls,b,h3,h4⟩:=h2 m hc
   exact(hn m _ (hl m (by simpa [PL.names]using hc)) h3).1
  refine⟨by rw [he];exact h1,fun m hc=>?_⟩
  obtain⟨ls,b,h3,h4⟩:=h2 m hc
  obtain⟨h6,ls',h5⟩:=hn m _ (hl m (by simpa [PL.names]using hc)) h3
  exact⟨ls',b,h5,h6.trans h4⟩
 |clo f boxes=>
  obtain⟨bs,h1,h2,h3⟩:=h
  refine⟨bs,h1,h2,fun j b c hj hc=>?_⟩
  obtain⟨g1,g2,us,g3,g4⟩:=h3 j b c hj hc
  exact⟨(hk.2 b g2 g1).1,Nat.lt_of_lt_of_le g2 hk.1,us,g3.kp hk,fun i v hi=>(hk.cell g2 g1).trans (g4 i v hi)⟩
 |xl v rows=>exact⟨h.1,RepL.kp hk h.2⟩
 |lit m=>
  have hm:p m:=hl m (by simp [PL.names])
  obtain⟨ls,b,h1,h2,h3⟩:=h
  obtain⟨h5,ls',h4⟩:=hn m _ hm h1
  exact⟨ls',b,h4,h5.trans h2,h3⟩
 |dead=>trivial
 |udf=>exact h
theorem RepPs.kp (hn:Nm hb hb' η η' fun _=>True)(hk:Kp w w' γ γ'){ls:List PL}{us:List Value}(h:RepPs hb η γ w ls us):RepPs hb' η' γ' w' ls us:=
 ⟨h.1,fun j l hj=>by obtain⟨u,h2,h3⟩:=h.2 j l hj;exact⟨u,h2,h3.kp hn hk (fun _ _=>trivial)⟩⟩
theorem RepC.kp (hn:Nm hb hb' η η' fun _=>True)(hk:Kp w w' γ γ'){g:Bool}{ls:List PL}{u:Value}(h:RepC hb η γ w g ls u):RepC hb' η' γ' w' g ls u:=by
 cases g with
 |true=>obtain⟨us,h1,h2⟩:=h;exact⟨us,h1,h2.kp hn hk⟩
 |false=>obtain⟨l,h1,h2⟩:=h;exact⟨l,h1,h2.kp hn hk (fun _ _=>trivial)⟩
theorem RepV.kp (hn:Nm hb hb' η η' fun _=>True)(hk:Kp w w' γ γ'){v:PV}{u:Value}(h:RepV hb η γ w v u):RepV hb' η' γ' w' v u:=by
 cases v with
 |comp g ls=>exact RepC.kp hn hk h
 |tup vs=>
  obtain⟨us,h1,h2,h3⟩:=h
  exact⟨us,h1,h2,fun j g ls hj=>by obtain⟨u,h6,h7⟩:=h3 j _ _ hj;exact⟨u,h6,h7.kp hn hk⟩⟩
theorem RepP.kill (hn:Nm hb hb' η η' (· ≠n))(hk:Kp w w' γ γ'){l:PL}{u:Value}(h:RepP hb η γ w l u):RepP hb' η' γ' w' (l.kill n) u:=by
 unfold PL.kill
 cases hl:l.names n with
 |true=>trivial
 |false=>
  rw [if_neg (by simp)]
  exact h.kp hn hk (fun m hm e=>by rw [e,hl]at hm;cases hm)
theorem RepPs.kill (hn:Nm hb hb' η η' (· ≠n))(hk:Kp w w' γ γ'){ls:List PL}{us:List Value}(h:RepPs hb η γ w ls us):RepPs hb' η' γ' w' (ls.map (PL.kill n)) us:=by
 refine⟨by rw [List.length_map];exact h.1,fun j l hj=>?_⟩
 rw [List.getElem?_map]at hj
 obtain⟨l0,h1,rfl⟩:=Option.map_eq_some_iff.1 hj
 obtain⟨u,h2,h3⟩:=h.2 j l0 h1
 exact⟨u,h2,h3.kill hn hk⟩
theorem RepC.kill (hn:Nm hb hb' η η' (· ≠n))(hk:Kp w w' γ γ'){g:Bool}{ls:List PL}{u:Value}(h:RepC hb η γ w g ls u):RepC hb' η' γ' w' g (ls.map (PL.kill n)) u:=by
 cases g with
 |true=>
  obtain⟨us,h1,h2⟩:=h
  exact⟨us,h1,h2.kill hn hk⟩
 |false=>
  obtain⟨l,rfl,h2⟩:=h
  exact⟨l.kill n,rfl,h2.kill hn hk⟩
theorem RepV.kill (hn:Nm hb hb' η η' (· ≠n))(hk:Kp w w' γ γ'){v:PV}{u:Value}(h:RepV hb η γ w v u):RepV hb' η' γ' w' (v.kill n) u:=by
 cases v with
 |comp g ls=>exact RepC.kill hn hk h
 |tup vs=>
  obtain⟨us,h1,h2,h3⟩:=h
  refine⟨us,h1,by rw [List.length_map];exact h2,fun j g ls hj=>?_⟩
  rw [List.getElem?_map]at hj
  obtain⟨⟨g0,l0⟩,h4,h5⟩:=Option.map_eq_some_iff.1 hj
  simp only [Prod.mk.injEq]at h5
  obtain⟨rfl,rfl⟩:=h5
  obtain⟨u,h6,h7⟩:=h3 j _ _ h4
  exact⟨u,h6,h7.kill hn hk⟩
end
theorem owns_same {w w':World}{e s n:Nat}{v:Value}{xs:List Value}(h:w.ownsRow 0 e s v n xs)(hh:∀b,v.ownBlock=some b→w'.heap[b]?=w.heap[b]?):w'.ownsRow 0 e s v n xs:=by
 obtain⟨h1,h2⟩:=h
 refine⟨h1,?_⟩
 rcases h2 with h2|⟨g,cap,cur,hv,h3,h4,h5⟩
 ·exact .inl h2
 ·exact .inr ⟨g,cap,cur,hv,h3,by rw [hh g (by rw [hv];rfl)];exact h4,h5⟩
section
variable {γ0:Nat→Option Nat}{w0:World}{N:Nat}{st:St}{a:Act}{w:World}{η:Nat→Value}{γ:Nat→Option Nat}
theorem Inv.put (h:Inv γ0 w0 N st a w η γ)(d:Nat)(v:PV)(u:Value)(hd:d<N)(hv:RepV (getB st) η γ w v u):Inv γ0 w0 N (.slot d v::st) (a.put (some d) u) w η γ:=by
 refine {h with slots:=fun t=>?_,width:=by simp [Act.put,h.width]}
 show RepV (getB st) η γ w (if d=t then v else getS st t) ((a.tmps.setIfInBounds d u).getD t undef)
 have hw:=h.width
 by_cases e:d=t
 ·subst e
  rw [if_pos rfl]
  have:(a.tmps.setIfInBounds d u).getD d undef=u:=by simp [Array.getD,hw,hd]
  rw [this]
  exact hv
 ·rw [if_neg e]
  have:(a.tmps.setIfInBounds d u).getD t undef=a.tmps.getD t undef:=by simp [Array.getD_eq_getD_getElem?,Array.getElem?_setIfInBounds,e]
  rw [this]
  exact h.slots t
theorem Inv.lost (h:Inv γ0 w0 N st a w η γ)(d:Nat)(hd:d<N):Inv γ0 w0 N (.slot d (one .udf)::st) (a.put (some d) undef) w η γ:=
 h.put d _ _ hd ⟨.udf,rfl,rfl⟩
theorem Inv.lose (h:Inv γ0 w0 N st a w η γ)(d:Nat)(u:Value)(hd:d<N):Inv γ0 w0 N (.slot d (one .dead)::st) (a.put (some d) u) w η γ:=
 h.put d _ u hd ⟨.dead,rfl,trivial⟩
theorem Inv.world (h:Inv γ0 w0 N st a w η γ)(w':World)(hh:w'.heap=w.heap)(ho:w'.os=w.os)(ht:w'.tape=w.tape)(hu:w'.output=w.output):Inv γ0 w0 N st a w' η γ:=by
 have hk:Kp w w' γ γ:=⟨by rw [hh];exact Nat.le_refl _,fun b _ hg=>⟨hg,by rw [hh]⟩⟩
 have hn:Nm (getB st) (getB st) η η fun _=>True:=fun m b _ hb=>⟨rfl,by cases b with|arr fl e s rows=>exact⟨fl,rows,hb,rfl⟩|box ls=>exact⟨ls,hb⟩⟩
 refine {h with slots:=fun t=>(h.slots t).kp hn hk,blks:=fun n b hb=>?_,live:=fun b n hb=>by rw [hh];exact h.live b n hb,low:=fun b hb hg=>by rw [hh];exact h.low b hb hg,os:=ho.trans h.os,tape:=ht.trans h.tape,output:=hu.trans h.output,size:=by rw [hh];exact h.size}
 have h1:=h.blks n b hb
 cases b with
 |box ls=>
  obtain⟨b,us,t,h2,h3,h4,h5⟩:=h1
  exact⟨b,us,t,h2,h3,by rw [hh];exact h4,h5.kp hn hk⟩
 |arr fl e s rows=>
  obtain⟨xs,h2,h3,h4,h5⟩:=h1
  exact⟨xs,owns_same h2 (fun b _=>by rw [hh]),h3.kp (hk.vw fun b hb=>⟨hb,by rw [hh]⟩),h4,h5.1,h5.2.kpW (fun _ h=>h) fun b _ _=>by rw [hh]⟩
theorem PinA.to {γ0:Nat→Option Nat}{w0:World}{N:Nat}{st st':St}{η η':Nat→Value}(h:PinA γ0 w0 N st η)
  (h1:N≤999→∀fl e s rows,getB st' 999=some (.arr fl e s rows)→η' 999=η 999∧∃fl' rows',getB st 999=some (.arr fl' e s rows')∧rows.length=rows'.length):PinA γ0 w0 N st' η':=fun h9 fl e s rows hb=>by
 obtain⟨h2,fl',rows',h3,h4⟩:=h1 h9 fl e s rows hb
 rw [h2,h4]
 exact h h9 fl' e s rows' h3
theorem PinA.no {γ0:Nat→Option Nat}{w0:World}{N:Nat}{st:St}{η:Nat→Value}(h1:N≤999→∀fl e s rows,getB st 999≠some (.arr fl e s rows)):PinA γ0 w0 N st η:=fun h9 fl e s rows hb=>absurd hb (h1 h9 fl e s rows)
theorem nstB_kill {o:Option Blk}{n:Nat}(h:nstB o=true):nstB (o.map (Blk.kill n))=true:=by
 cases o with
 |none=>cases h
 |some b=>cases b with
  |box ls=>cases h
  |arr fl e s rows=>exact h
theorem Inv.drop (h:Inv γ0 w0 N st a w η γ)(n:Nat):Inv γ0 w0 N (.kill n::st) a w η (fun b=>if γ b=some n then none else γ b):=by
 have hk:Kp w w γ (fun b=>if γ b=some n then none else γ b):=⟨Nat.le_refl _,fun b _ hg=>⟨by simp [hg],rfl⟩⟩
 have hn:Nm (getB st) (getB (.kill n::st)) η η (· ≠n):=by
  intro m b hm hb
  refine⟨rfl,?_⟩
  have hne:¬n=m:=fun e=>hm e.symm
  cases b with
  |arr fl e s rows=>exact⟨fl,rows,by simp only [getB,if_neg hne,hb,Option.map_some,Blk.kill],rfl⟩
  |box ls=>exact⟨ls.map (PL.kill n),by simp only [getB,if_neg hne,hb,Option.map_some,Blk.kill]⟩
 refine {h with slots:=fun t=>(h.slots t).kill hn hk,blks:=fun m b hb=>?_,live:=fun b m hb=>?_,low:=fun b hb hg=>⟨by simp [(h.low b hb hg).1],(h.low b hb hg).2⟩,pin:=fun h9 b ls hb hbx=>?_,pinA:=h.pinA.to fun h9 fl e s rows hbx=>⟨rfl,?_⟩}
 ·by_cases hne:n=m
  ·simp only [getB,if_pos hne]at hb;cases hb
  ·simp only [getB,if_neg hne]at hb
   obtain⟨b0,hb0,rfl⟩:=Option.map_eq_some_iff.1 hb
   have hne':¬m=n:=fun e=>hne e.symm
   have h1:=h.blks m b0 hb0
   cases b0 with
   |box ls=>
    obtain⟨b,us,t,h2,h3,h4,h5⟩:=h1
    exact⟨b,us,t,h2,by simp [h3,hne'],h4,h5.kill hn hk⟩
   |arr fl e s rows=>
    obtain⟨xs,h2,h3,h4,h5,h6⟩:=h1
    exact⟨xs,h2,h3.kp (hk.vw fun b hb=>⟨by simp [hb,hne'],rfl⟩),h4,fun b hb=>by simp [h5 b hb,hne'],h6.kp fun b hb=>by simp [hb,hne']⟩
 ·by_cases hg:γ b=some n
  ·simp [hg]at hb
  ·simp only [hg,if_false]at hb
   obtain⟨h1,h2,h3⟩:=h.live b m hb
   have hne:¬n=m:=fun e=>hg (e▸hb)
   refine⟨h1,h2.imp id fun h2=>?_,?_⟩
   ·simp only [getB,if_neg hne]
    exact nstB_kill h2
   ·simp only [getB,if_neg hne]
    cases hgb:getB st m with
    |none=>rw [hgb]at h3;cases h3
    |some b=>rfl
 ·by_cases hg:γ b=some n
  ·simp [hg]at hb
  ·simp only [hg,if_false]at hb
   have hne:¬n=999:=fun e=>hg (e▸hb)
   simp only [getB,if_neg hne]at hbx
   obtain⟨b0,hb0,hk0⟩:=Option.map_eq_some_iff.1 hbx
   cases b0 with
   |box ls0=>exact h.pin h9 b ls0 hb hb0
   |arr fl e s rows=>cases hk0
 ·by_cases hne:n=999
  ·simp only [getB,if_pos hne]at hbx;cases hbx
  ·simp only [getB,if_neg hne]at hbx
   obtain⟨b0,hb0,hk0⟩:=Option.map_eq_some_iff.1 hbx
   cases b0 with
   |box ls0=>cases hk0
   |arr fl0 e0 s0 rows0=>
    cases hk0
    exact⟨_,_,hb0,rfl⟩
end
end PA
section PB
def cl:Value→PL
 |.slice none 0 0=>.nil
 |v=>if v.oneCell' then .sc v else .dead
def ofConst:Value→PV
 |.agg cs=>.comp true (cs.toList.map cl)
 |v=>one (cl v)
def ev (st:St):Operand→PV
 |.tmp t=>getS st t
 |.const v=>ofConst v
 |.func f=>one (.fn f [])
 |.global g=>match globs g with
  |some cs=>one (.prow (cs.map Leaf.sc) 0)
  |none=>one .dead
def inI64 (n:Int):Prop:= -9223372036854775808≤n∧n≤9223372036854775807
instance (n:Int):Decidable (inI64 n):=by unfold inI64;infer_instance
def ar (k:IntKind)(n:Int):Option Value:=some (.int k (k.wrap n))
theorem wrap_i64 (n:Int)(h: -9223372036854775808≤n∧n≤9223372036854775807):IntKind.i64.wrap n=n:=by
 have:= @IntWalk.i64_in n
 exact this (by omega)
theorem ar_eq {k:IntKind}{n:Int}{v:Value}(h:ar k n=some v):v=.int k (k.wrap n):=by cases h;rfl
def pint (op:BinOp)(k:IntKind)(a b:Int):Option Value:=
 match op with
 |.add=>ar k (a+b)
 |.sub=>ar k (a-b)
 |.mul=>ar k (a*b)
 |.quo=>if b=0 then none else ar k (a.tdiv b)
 |.rem=>if b=0 then none else some (.int k (a.tmod b))
 |.and=>some (.int k (bits .and k a b))
 |.or=>some (.int k (bits .or k a b))
 |.xor=>some (.int k (bits .xor k a b))
 |.andNot=>some (.int k (bits .andNot k a b))
 |.eql=>some (.bool (decide (a=b)))
 |.neq=>some (.bool !(decide (a=b)))
 |.lss=>some (.bool (decide (a<b)))
 |.leq=>some (.bool (decide (a≤b)))
 |.gtr=>some (.bool (decide (b<a)))
 |.geq=>some (.bool (decide (b≤a)))
 |_=>none
def pstr (op:BinOp)(a b:ByteArray):Option Value:=
 match op with
 |.add=>if a.size+b.size≤9223372036854775807 then some (.string (a++b))else none
 |.eql=>some (.bool (decide (a=b)))
 |.neq=>some (.bool !(decide (a=b)))
 |.lss=>some (.bool (Op.bytesLess a.toList b.toList))
 |.leq=>some (.bool (Op.bytesLess a.toList b.toList||decide (a=b)))
 |.gtr=>some (.bool !(Op.bytesLess a.toList b.toList||decide (a=b)))
 |.geq=>some (.bool !(Op.bytesLess a.toList b.toList))
 |_=>none
def pbin (P:Program)(op:BinOp)(t:TypeId):Value→Value→Option Value
 |.int k a,.int k' b=>
  match op with
  |.shl=>if b<0 then none else ar k (a*2^(min b.toNat k.bits))
  |.shr=>if b<0 then none else some (.int k (a.fdiv (2^(min b.toNat k.bits))))
  |op=>if k=k' then pint op k a b else none
 |.string a,.string b=>pstr op a b
 |.bool a,.bool b=>
  match op,P.underlying t with
  |.eql,some .bool=>some (.bool (a==b))
  |.neq,some .bool=>some (.bool !(a==b))
  |_,_=>none
 |_,_=>none
def pun (op:UnOp):Value→Option Value
 |.bool b=>match op with|.not=>some (.bool !b)|_=>none
 |.int k n=>match op with
  |.neg=>ar k (0-n)
  |.xor=>some (.int k (bits .xor k (if k.signed then-1 else k.max) n))
  |_=>none
 |_=>none
theorem guard_sc (op:BinOp)(t:TypeId)(x y:Operand)(a b:Value)(h:a.oneCell'=true)(hn:a≠.nilIface):eqGuard op t x y a b=pure ():=by
 cases a<;>first|(cases op<;>rfl)|(exact absurd rfl hn)|(simp [Value.oneCell']at h)
section
variable {P:Program}
theorem pint_sound {op:BinOp}{k:IntKind}{a b:Int}{v:Value}{t:TypeId}(w:World)(h1:op≠.shl)(h2:op≠.shr)(h:pint op k a b=some v):(binOp op t (.int k a) (.int k b)).run P w=.ok v w:=by
 cases op
 case shl=>exact absurd rfl h1
 case shr=>exact absurd rfl h2
 case add=>rw [ar_eq h];simp [binOp,Op.intArith]
 case sub=>rw [ar_eq h];simp [binOp,Op.intArith]
 case mul=>rw [ar_eq h];simp [binOp,Op.intArith]
 case quo=>
  simp only [pint]at h
  split at h
  ·cases h
  ·rename_i hb
   rw [ar_eq h];simp [binOp,Op.intDiv,hb]
 case rem=>
  simp only [pint]at h
  split at h
  ·cases h
  ·rename_i hb
   cases h;simp [binOp,Op.intDiv,hb]
 case eql=>
  have e:(a==b)=decide (a=b):=by by_cases h:a=b<;>simp [h]
  cases h;rw [←e];simp [binOp,Op.intCmp]
 case neq=>
  have e:(a==b)=decide (a=b):=by by_cases h:a=b<;>simp [h]
  cases h;rw [←e];simp [binOp,Op.intCmp,bne]
 all_goals first
  |(simp only [pint,Option.some.injEq]at h;subst h;simp [binOp,intBits_and,intBits_or,intBits_xor,intBits_andNot,Op.intCmp];done)
  |(simp [pint]at h)
theorem pstr_sound {op:BinOp}{a b:ByteArray}{v:Value}{t:TypeId}(w:World)(h:pstr op a b=some v):(binOp op t (.string a) (.string b)).run P w=.ok v w:=by
 cases op
 case add=>
  simp only [pstr]at h
  split at h
  ·rename_i hs
   cases h
   show(Op.stringOp .add a b).run P w=_
   exact run_string_add_sum w a b hs
  ·cases h
 all_goals first
  |(simp only [pstr,Option.some.injEq]at h;subst h;simp [binOp,Op.stringOp,ba_beq];done)
  |(simp [pstr]at h)
theorem run_eq_bool {t:TypeId}{a b:Bool}(d:Nat)(hu:P.underlying t=some .bool)(w:World):(Op.equalIn (d+1) t (.bool a) (.bool b)).run P w=.ok (a==b) w:=by
 simp [Op.equalIn,run_underlying hu]
theorem run_eql_bool {t:TypeId}{a b:Bool}(hu:P.underlying t=some .bool)(w:World):(binOp .eql t (.bool a) (.bool b)).run P w=.ok (.bool (a==b)) w:=by
 have h:=run_eq_bool (a:=a) (b:=b) 9999 hu w
 show Sem.run P (Op.equalIn (9999+1) t (Value.bool a) (Value.bool b)>>=fun r=>(pure (Value.bool r):Sem Value)) w=_
 rw [Sem.run_bind,h]
 rfl
theorem run_neq_bool {t:TypeId}{a b:Bool}(hu:P.underlying t=some .bool)(w:World):(binOp .neq t (.bool a) (.bool b)).run P w=.ok (.bool !(a==b)) w:=by
 have h:=run_eq_bool (a:=a) (b:=b) 9999 hu w
 show Sem.run P (Op.equalIn (9999+1) t (Value.bool a) (Value.bool b)>>=fun r=>(pure (Value.bool (!r)):Sem Value)) w=_
 rw [Sem.run_bind,h]
 rfl
theorem pbin_sound {op:BinOp}{a b v:Value}{t:TypeId}(x y:Operand)(w:World)(h:pbin P op t a b=some v):(do eqGuard op t x y a b;binOp op t a b:Sem Value).run P w=.ok v w:=by
 have hg:eqGuard op t x y a b=pure ():=by
  cases a<;>first|(exfalso;simp [pbin]at h;done)|exact guard_sc _ _ _ _ _ _ rfl (by simp)
 rw [hg]
 show(binOp op t a b).run P w=_
 cases a with
 |int k n=>
  cases b with
  |int k' m=>
   by_cases h1:op=.shl
   ·subst h1
    simp only [pbin]at h
    split at h
    ·cases h
    ·rename_i hm
     rw [ar_eq h];simp [binOp,Op.shift,hm]
   by_cases h2:op=.shr
   ·subst h2
    simp only [pbin]at h
    split at h
    ·cases h
    ·rename_i hm
     cases h;simp [binOp,Op.shift,hm]
   have hp:(if k=k' then pint op k n m else none)=some v:=by
    cases op<;>first|exact h|(exact absurd rfl h1)|(exact absurd rfl h2)
   split at hp
   ·rename_i e
    subst e
    exact pint_sound w h1 h2 hp
   ·cases hp
  |_=>simp [pbin]at h
 |string s=>
  cases b with
  |string s'=>exact pstr_sound w h
  |_=>simp [pbin]at h
 |bool c=>
  cases b with
  |bool d=>
   simp only [pbin]at h
   split at h
   ·rename_i hu
    cases h
    exact run_eql_bool hu w
   ·rename_i hu
    cases h
    exact run_neq_bool hu w
   ·cases h
  |_=>simp [pbin]at h
 |_=>simp [pbin]at h
theorem pun_sound {op:UnOp}{a v:Value}(w:World)(h:pun op a=some v):(Op.unary op a).run P w=.ok v w:=by
 cases a with
 |bool b=>
  cases op<;>simp only [pun]at h<;>first|(cases h;rfl)|cases h
 |int k n=>
  cases op<;>simp only [pun]at h<;>first|(rw [ar_eq h];simp [Op.unary,Op.intArith];done)|(cases h;simp [Op.unary,intBits_xor];done)|cases h
 |_=>simp [pun]at h
end
end PB
section PC
def rowT (P:Program)(t:TypeId):Option Bool:=(P.underlying t).map TypeDesc.isRow
def szT (P:Program)(t:TypeId):Option Nat:=(P.info? t).map (·.size)
def byT (P:Program)(t:TypeId):Option Nat:=(P.info? t).map (·.bytes)
def zeroT (P:Program)(t:TypeId):Option Value:=(P.info? t).bind (·.zero)
def elT (P:Program)(t:TypeId):Option Nat:=match P.underlying t with|some (.slice e)=>some e|_=>none
def fldT (P:Program)(s:TypeId)(f:Nat):Option (Nat×Nat):=
 match P.underlying s with
 |some (.struct fields)=>match fields[f]? with
  |some fd=>match szT P fd.type with
   |some (_+1)=>some (fd.offset,fd.type)
   |_=>none
  |none=>none
 |_=>none
def intT (P:Program)(t:TypeId):Option IntKind:=match P.underlying t with|some (.int k)=>some k|_=>none
def isStrT (P:Program)(t:TypeId):Bool:=match P.underlying t with|some .string=>true|_=>false
def toPL:Leaf→PL
 |.sc v=>.sc v
 |.sl rows=>.sl rows
def loadV (P:Program)(t:TypeId)(ls:List PL)(off:Nat):Option PV:=
 match rowT P t,szT P t with
 |some true,some s=>if off+s≤ls.length then some (.comp true ((ls.drop off).take s))else none
 |some false,_=>(ls[off]?).map one
 |_,_=>none
def loadE (P:Program)(st:St)(t:TypeId):PV→Option PV
 |.comp false [.ptr n off]=>match getB st n with
  |some (.box ls)=>loadV P t ls off
  |_=>none
 |.comp false [.pel n i off]=>match getB st n with
  |some (.arr fl _ _ rows)=>if fl.nst=true then none else match rows[i]? with
   |some row=>loadV P t (row.map toPL) off
   |none=>none
  |_=>none
 |.comp false [.prow cells off]=>loadV P t (cells.map toPL) off
 |_=>none
def fieldAddrE (P:Program)(s:TypeId)(f:Nat):PV→Option PV
 |.comp false [.ptr n off]=>(fldT P s f).map fun o=>one (.ptr n (off+o.1))
 |.comp false [.pel n i off]=>(fldT P s f).map fun o=>one (.pel n i (off+o.1))
 |.comp false [.prow cells off]=>(fldT P s f).map fun o=>one (.prow cells (off+o.1))
 |_=>none
def partV (P:Program)(t:TypeId)(ls:List PL)(off:Nat):Option PV:=
 match rowT P t,szT P t with
 |some true,some s=>some (.comp true ((ls.drop off).take s))
 |some false,_=>(ls[off]?).map one
 |_,_=>none
def fieldE (P:Program)(s:TypeId)(f:Nat):PV→Option PV
 |.comp true ls=>match fldT P s f with
  |some o=>partV P o.2 ls o.1
  |none=>none
 |_=>none
def arT (P:Program)(t:TypeId):Option (Nat×Nat):=match P.underlying t with|some (.array n e)=>some (n,e)|_=>none
def shiftE (k:Nat):PL→Option PV
 |.ptr n off=>some (one (.ptr n (off+k)))
 |.pel n i off=>some (one (.pel n i (off+k)))
 |.prow c off=>some (one (.prow c (off+k)))
 |_=>none
def indexArrE (P:Program)(t:TypeId):PV→PV→Option PV
 |.comp false [l],.comp false [.sc (.int _ i)]=>
  match arT P t with
  |some (n,e)=>match szT P e with
   |some s=>if 0≤i∧i<n then shiftE (i.toNat*s) l else none
   |none=>none
  |none=>none
 |_,_=>none
def indexSlE (P:Program)(st:St)(t:TypeId):PV→PV→Option PV
 |.comp false [l],.comp false [.sc (.int _ i)]=>
  match elT P t with
  |some e=>match szT P e with
   |some s=>match l with
    |.sl rows=>if 0≤i then match rows[i.toNat]? with
      |some row=>if row.length=s then some (one (.prow row 0))else none
      |none=>none
     else none
    |.all n=>match getB st n with
     |some (.arr _ _ s' rows)=>if s'=s then(if 0≤i∧i<rows.length then some (one (.pel n i.toNat 0))else none)else none
     |_=>none
    |.ref n off len=>match getB st n with
     |some (.arr _ _ s' _)=>if s'=s then(if 0≤i∧i<len then some (one (.pel n (off+i.toNat) 0))else none)else none
     |_=>none
    |.xl _ rows=>if 0≤i then match rows[i.toNat]? with
      |some row=>if row.length=s then some (one (.prow row 0))else none
      |none=>none
     else none
    |_=>none
   |none=>none
  |none=>none
 |_,_=>none
def indexAddrE (P:Program)(st:St)(t:TypeId)(x y:PV):Option PV:=if(arT P t).isSome then indexArrE P t x y else indexSlE P st t x y
def lenE (st:St):PV→Option Int
 |.comp false [l]=>match l with
  |.nil=>some 0
  |.sl rows=>some rows.length
  |.all n=>match getB st n with
   |some (.arr _ _ _ rows)=>some rows.length
   |_=>none
  |.ref _ _ len=>some len
  |.sc (.string s)=>some s.size
  |.xl _ rows=>some rows.length
  |_=>none
 |_=>none
section
variable {P:Program}{hb:Nat→Option Blk}{η:Nat→Value}{γ:Nat→Option Nat}{w:World}
theorem RepV.one_iff {l:PL}{u:Value}:RepV hb η γ w (one l) u↔RepP hb η γ w l u:=
 ⟨fun⟨_,e,h⟩=>by cases e;exact h,fun h=>⟨l,rfl,h⟩⟩
theorem cl_sound (v:Value):RepP hb η γ w (cl v) v:=by
 unfold cl
 split
 ·rfl
 ·split
  ·rename_i h;exact⟨rfl,h⟩
  ·trivial
theorem ofConst_sound (v:Value):RepV hb η γ w (ofConst v) v:=by
 unfold ofConst
 split
 ·rename_i cs
  refine⟨cs.toList,rfl,by simp,fun j l hj=>?_⟩
  rw [List.getElem?_map]at hj
  obtain⟨u,h1,rfl⟩:=Option.map_eq_some_iff.1 hj
  exact⟨u,h1,cl_sound u⟩
 ·exact RepV.one_iff.2 (cl_sound v)
theorem ev_sound {γ0:Nat→Option Nat}{w0:World}{N:Nat}{st:St}{a:Act}(h:Inv γ0 w0 N st a w η γ)(x:Operand):RepV (getB st) η γ w (ev st x) (a.eval x):=by
 cases x with
 |tmp t=>exact h.slots t
 |const v=>exact ofConst_sound v
 |global g=>
  show RepV (getB st) η γ w (match globs g with|some cs=>one (.prow (cs.map Leaf.sc) 0)|none=>one .dead) (.pointer (some ⟨g,0,none⟩))
  cases hg:globs g with
  |none=>exact RepV.one_iff.2 trivial
  |some cs=>
   obtain⟨h1,h2,h3⟩:=h.glob g cs hg
   obtain⟨h4,h5⟩:=h.low g h2 h1
   refine RepV.one_iff.2 ⟨g,0,cs,h4,Nat.lt_of_lt_of_le h2 h.size,rfl,⟨by simp,fun j l hj=>?_⟩,fun j v hj=>?_⟩
   ·rw [List.getElem?_map]at hj
    obtain⟨v,hv,rfl⟩:=Option.map_eq_some_iff.1 hj
    exact⟨v,hv,.sc (h3 j v hv).1⟩
   ·rw [Nat.zero_add,World.cell?_of_block (a:=⟨g,j,none⟩) h5]
    exact(h3 j v hj).2
 |func f=>exact RepV.one_iff.2 ⟨rfl,fun n hn=>absurd hn (by simp)⟩
theorem Inv.globw {γ0:Nat→Option Nat}{w0:World}{N:Nat}{st:St}{a:Act}(h:Inv γ0 w0 N st a w η γ):GlobOk (fun _=>none) w:=fun g cs hg=>by
 obtain⟨h1,h2,h3⟩:=h.glob g cs hg
 obtain⟨h4,h5⟩:=h.low g h2 h1
 refine⟨rfl,Nat.lt_of_lt_of_le h2 h.size,fun j v hj=>⟨(h3 j v hj).1,?_⟩⟩
 rw [World.cell?_of_block (a:=⟨g,j,none⟩) h5]
 exact(h3 j v hj).2
theorem rep_sc {v u:Value}(h:RepV hb η γ w (one (.sc v)) u):u=v∧v.oneCell'=true:=RepV.one_iff.1 h
theorem rep_mk {v:Value}(h:v.oneCell'=true):RepV hb η γ w (one (.sc v)) v:=RepV.one_iff.2 ⟨rfl,h⟩
theorem RepPs.sub {ls:List PL}{us:List Value}(h:RepPs hb η γ w ls us)(off s:Nat):RepPs hb η γ w ((ls.drop off).take s) ((us.drop off).take s):=by
 refine⟨by simp [h.1],fun j l hj=>?_⟩
 rw [List.getElem?_take]at hj⊢
 split at hj
 ·rename_i hlt
  rw [if_pos hlt,List.getElem?_drop]
  rw [List.getElem?_drop]at hj
  exact h.2 _ l hj
 ·cases hj
theorem run_load_one {t:TypeId}{b o:Nat}{d:TypeDesc}{u:Value}(hu:P.underlying t=some d)(hd:d.isRow=false)(hc:w.cell? ⟨b,o,none⟩=some u):(Instr.loadAt t (.pointer (some ⟨b,o,none⟩))).run P w=.ok u w:=by
 have hagg:(isAgg t).run P w=.ok false w:=by
  unfold isAgg
  rw [Sem.run_bind,run_underlying hu w]
  cases d<;>simp_all
 simp [Instr.loadAt,Instr.sureAddr,loadVar,Sem.run_bind,hagg,hc]
theorem loadV_sound {t:TypeId}{ls:List PL}{us:List Value}{off b o:Nat}{v:PV}(hr:RepPs hb η γ w ls us)(hc:w.rangeAt b o us)(h:loadV P t ls off=some v):
  ∃u,(Instr.loadAt t (.pointer (some ⟨b,o+off,none⟩))).run P w=.ok u w∧RepV hb η γ w v u:=by
 unfold loadV at h
 split at h
 ·rename_i s hrow hsz
  split at h
  ·rename_i hle
   cases h
   obtain⟨d,hu,hd⟩:=Option.map_eq_some_iff.1 hrow
   refine⟨_,run_loadAt_mid w b (o+off) t ((us.drop off).take s) d (fun j v hj=>?_) hu hd ?_,⟨_,rfl,hr.sub off s⟩⟩
   ·rw [List.getElem?_take]at hj
    split at hj
    ·rw [List.getElem?_drop]at hj
     rw [Nat.add_assoc]
     exact hc _ _ hj
    ·cases hj
   ·rw [show(P.info? t).map (·.size)=some s from hsz]
    simp only [List.length_take,List.length_drop,hr.1,Option.some.injEq]
    omega
  ·cases h
 ·rename_i hrow
  obtain⟨l,hl,rfl⟩:=Option.map_eq_some_iff.1 h
  obtain⟨d,hu,hd⟩:=Option.map_eq_some_iff.1 hrow
  obtain⟨u,h1,h2⟩:=hr.2 off l hl
  exact⟨u,run_load_one hu hd (hc _ _ h1),RepV.one_iff.2 h2⟩
 ·cases h
theorem toPL_sound {l:Leaf}{u:Value}(h:RepL w γ l u):RepP hb η γ w (toPL l) u:=by
 cases l with
 |sc v=>cases h with|sc h=>exact⟨rfl,h⟩
 |sl rows=>exact h
theorem toPLs_sound {ls:List Leaf}{us:List Value}(h:RepLs w γ ls us):RepPs hb η γ w (ls.map toPL) us:=by
 refine⟨by rw [List.length_map];exact h.1,fun j l hj=>?_⟩
 rw [List.getElem?_map]at hj
 obtain⟨l0,h1,rfl⟩:=Option.map_eq_some_iff.1 hj
 obtain⟨u,h2,h3⟩:=h.2 j l0 h1
 exact⟨u,h2,toPL_sound h3⟩
theorem flatten_row {α:Type}{s:Nat}:∀{rows:List (List α)} (_:∀row∈rows,row.length=s) {i:Nat} {row:List α} (_:rows[i]?=some row) (j:Nat),j<s→rows.flatten[i*s+j]?=row[j]?
 |[],_,i,row,h,_,_=>by simp at h
 |r::rs,hs,0,row,h,j,hj=>by
  simp only [List.getElem?_cons_zero,Option.some.injEq]at h
  subst h
  have:=hs r (List.mem_cons_self)
  rw [List.flatten_cons,Nat.zero_mul,Nat.zero_add,List.getElem?_append_left (by omega)]
 |r::rs,hs,i+1,row,h,j,hj=>by
  have h0:=hs r (List.mem_cons_self)
  have ih:=flatten_row (rows:=rs) (fun r' h'=>hs r' (List.mem_cons_of_mem _ h')) (i:=i) (row:=row) (by simpa using h) j hj
  rw [List.flatten_cons,List.getElem?_append_right (by rw [Nat.succ_mul];omega),h0]
  rw [←ih]
  congr 1
  rw [Nat.succ_mul];omega
theorem flatten_len {α:Type}{s:Nat}:∀{rows:List (List α)} (_:∀row∈rows,row.length=s),rows.flatten.length=rows.length*s
 |[],_=>by simp
 |r::rs,hs=>by
  rw [List.flatten_cons,List.length_append,hs r (List.mem_cons_self),flatten_len (fun r' h'=>hs r' (List.mem_cons_of_mem _ h')),List.length_cons,Nat.succ_mul,Nat.add_comm]
theorem arr_row {n:Nat}{fl:Fl}{e s:Nat}{rows:List (List Leaf)}{b c:Nat}(h:RepB hb η γ w n (.arr fl e s rows))(hη:η n=.slice (some ⟨b,0,none⟩) rows.length c){i:Nat}{row:List Leaf}(hi:rows[i]?=some row):
  ∃us,RepLs w (vw fl n (η n) γ) row us∧w.rangeAt b (i*s) us∧row.length=s:=by
 obtain⟨xs,⟨hxl,ho⟩,hr,hs,_,_⟩:=h
 have hrow:row.length=s:=hs row (List.mem_of_getElem? hi)
 rw [hη]at ho
 rcases ho with⟨ho,_⟩|⟨g,cap,cur,hg,_,hh,_,_,_,ht⟩
 ·cases ho
 injection hg with hg1 _ hg3
 injection hg1 with hg1
 injection hg1 with hg1
 subst hg1
 have hlen:i<rows.length:=(List.getElem?_eq_some_iff.1 hi).1
 have hle:i*s+s≤rows.length*s:=by rw [←Nat.succ_mul];exact Nat.mul_le_mul_right _ hlen
 refine⟨(xs.drop (i*s)).take s,⟨by simp [hxl,hrow];omega,fun j l hj=>?_⟩,fun j v hj=>?_,hrow⟩
 ·have hjs:j<s:=by rw [←hrow];exact(List.getElem?_eq_some_iff.1 hj).1
  have h1:=flatten_row hs hi j hjs
  rw [hj]at h1
  obtain⟨u,h2,h3⟩:=hr.2 _ l h1
  refine⟨u,?_,h3⟩
  rw [List.getElem?_take,if_pos hjs,List.getElem?_drop]
  exact h2
 ·rw [List.getElem?_take]at hj
  split at hj
  ·rename_i hjs
   rw [List.getElem?_drop,←ht,List.getElem?_take]at hj
   split at hj
   ·simp only [World.cell?,hh]
    simpa using hj
   ·cases hj
  ·cases hj
theorem loadE_sound {γ0:Nat→Option Nat}{w0:World}{N:Nat}{st:St}{a:Act}(h:Inv γ0 w0 N st a w η γ){t:TypeId}{x v:PV}{p:Value}(hx:RepV (getB st) η γ w x p)(hl:loadE P st t x=some v):
  ∃u,(Instr.loadAt t p).run P w=.ok u w∧RepV (getB st) η γ w v u:=by
 unfold loadE at hl
 split at hl
 ·rename_i n off
  split at hl
  ·rename_i ls hbx
   obtain⟨ls',b,h1,h2,rfl⟩:=RepV.one_iff.1 hx
   obtain⟨b',us,t',h3,h4,h5,h6⟩:=h.blks n _ hbx
   rw [h2]at h3
   injection h3 with h3
   injection h3 with h3
   injection h3 with h3
   subst h3
   have:=loadV_sound (P:=P) (b:=b) (o:=0) h6 (fun j v hj=>by simp only [World.cell?,h5];simpa using hj) hl
   simpa using this
  ·cases hl
 ·rename_i n i off
  split at hl
  ·rename_i fl e s rows hbx
   split at hl
   ·cases hl
   rename_i hnst
   split at hl
   ·rename_i row hrow
    obtain⟨fl',e',s',rows',b,c,h1,h2,h3,rfl⟩:=RepV.one_iff.1 hx
    rw [hbx]at h1
    cases h1
    obtain⟨us,h4,h5,h6⟩:=arr_row (h.blks n _ hbx) h3 hrow
    rw [vw_of (by simpa using hnst)]at h4
    exact loadV_sound (toPLs_sound h4) h5 hl
   ·cases hl
  ·cases hl
 ·rename_i cells off
  obtain⟨b,o,us,h1,h2,rfl,h3,h4⟩:=RepV.one_iff.1 hx
  exact loadV_sound (toPLs_sound h3) h4 hl
 ·cases hl
theorem fldT_sound {s f o t:Nat}(h:fldT P s f=some (o,t))(b off:Nat):(Instr.fieldAt s (.pointer (some ⟨b,off,none⟩)) f).run P w=.ok (.pointer (some ⟨b,off+o,none⟩)) w:=by
 unfold fldT at h
 split at h
 ·rename_i fields hu
  split at h
  ·rename_i fd hf
   split at h
   ·rename_i k hs
    cases h
    obtain⟨i,hi,hsz⟩:=Option.map_eq_some_iff.1 hs
    have h1:(sizeOf fd.type).run P w=.ok (k+1) w:=by simp [sizeOf,typeInfo,hi,hsz]
    simp [Instr.fieldAt,run_underlying hu,hf,Instr.sureAddr,fieldPlace,h1,Addr.add_mid]
   ·cases h
  ·cases h
 ·cases h
theorem fieldAddrE_sound {s f:Nat}{x v:PV}{p:Value}(hx:RepV hb η γ w x p)(hl:fieldAddrE P s f x=some v):
  ∃u,(Instr.fieldAt s p f).run P w=.ok u w∧RepV hb η γ w v u:=by
 unfold fieldAddrE at hl
 split at hl
 ·obtain⟨⟨o,t⟩,h1,rfl⟩:=Option.map_eq_some_iff.1 hl
  obtain⟨ls',b,h2,h3,rfl⟩:=RepV.one_iff.1 hx
  exact⟨_,fldT_sound h1 b _,RepV.one_iff.2 ⟨ls',b,h2,h3,rfl⟩⟩
 ·obtain⟨⟨o,t⟩,h1,rfl⟩:=Option.map_eq_some_iff.1 hl
  obtain⟨fl',e',s',rows',b,c,h2,h3,h4,rfl⟩:=RepV.one_iff.1 hx
  exact⟨_,fldT_sound h1 b _,RepV.one_iff.2 ⟨fl',e',s',rows',b,c,h2,h3,h4,by rw [Nat.add_assoc]⟩⟩
 ·obtain⟨⟨o,t⟩,h1,rfl⟩:=Option.map_eq_some_iff.1 hl
  obtain⟨b,o',us,h2,h3,rfl,h4,h5⟩:=RepV.one_iff.1 hx
  exact⟨_,fldT_sound h1 b _,RepV.one_iff.2 ⟨b,o',us,h2,h3,by rw [Nat.add_assoc],h4,h5⟩⟩
 ·cases hl
end
end PC
section PD
def wid (s:Nat)(rows:List (List Leaf)):Prop:=∀row∈rows,row.length=s
def strIdx (s:ByteArray)(i:Int):Option UInt8:=if 0≤i then s.data.toList[i.toNat]? else none
def indexArrV (P:Program)(t:TypeId):PV→PV→Option PV
 |.comp true ls,.comp false [.sc (.int _ i)]=>
  match arT P t with
  |some (n,e)=>match szT P e with
   |some s=>if 0≤i∧i<n then partV P e ls (i.toNat*s)else none
   |none=>none
  |none=>none
 |_,_=>none
def indexStE (P:Program)(t:TypeId):PV→PV→Option PV
 |.comp false [.sc (.string s)],.comp false [.sc (.int _ i)]=>if isStrT P t then(strIdx s i).map fun b=>one (.sc (.int .u8 b.toNat))else none
 |_,_=>none
def indexE (P:Program)(t:TypeId)(x y:PV):Option PV:=if(arT P t).isSome then indexArrV P t x y else indexStE P t x y
def boundE (d:Int):Option PV→Option Int
 |none=>some d
 |some (.comp false [.sc (.int _ i)])=>some i
 |_=>none
def subE (st:St)(s:Nat)(l:PL)(lo hi:Nat):Option PL:=
 match l with
 |.nil=>some .nil
 |.sl rows=>if rows=[]∨∃row,rows[lo]?=some row∧row.length=s then some (.sl ((rows.take hi).drop lo))else(if lo=hi then some (.sl [])else none)
 |.all n=>match getB st n with
  |some (.arr _ _ s' _)=>if s'=s then(if lo=0∨lo<hi then some (.ref n lo (hi-lo))else some (.sl []))else none
  |_=>none
 |.ref n off _=>match getB st n with
  |some (.arr _ _ s' _)=>if s'=s then(if lo=0∨lo<hi then some (.ref n (off+lo) (hi-lo))else some (.sl []))else none
  |_=>none
 |_=>none
def bytesE (rows:List (List Leaf)):Option (List UInt8):=rows.mapM fun
 |[.sc (.int .u8 n)]=>some (UInt8.ofNat n.toNat)
 |_=>none
section
variable {P:Program}{hb:Nat→Option Blk}{η:Nat→Value}{γ:Nat→Option Nat}{w:World}
theorem partV_sound {t:TypeId}{ls:List PL}{us:List Value}{off:Nat}{v:PV}(hr:RepPs hb η γ w ls us)(h:partV P t ls off=some v):
  ∃u,(part t us.toArray off).run P w=.ok u w∧RepV hb η γ w v u:=by
 unfold partV at h
 split at h
 ·rename_i s hrow hsz
  cases h
  obtain⟨d,hu,hd⟩:=Option.map_eq_some_iff.1 hrow
  obtain⟨i,hi,hs⟩:=Option.map_eq_some_iff.1 hsz
  have hagg:(isAgg t).run P w=.ok true w:=by
   unfold isAgg
   rw [Sem.run_bind,run_underlying hu w]
   cases d<;>simp_all
  refine⟨.agg ((us.drop off).take s).toArray,?_,⟨_,rfl,hr.sub off s⟩⟩
  simp [part,hagg,sizeOf,typeInfo,hi,hs]
  try(rw [List.drop_take];congr 1;omega)
 ·rename_i hrow
  obtain⟨l,hl,rfl⟩:=Option.map_eq_some_iff.1 h
  obtain⟨d,hu,hd⟩:=Option.map_eq_some_iff.1 hrow
  have hagg:(isAgg t).run P w=.ok false w:=by
   unfold isAgg
   rw [Sem.run_bind,run_underlying hu w]
   cases d<;>simp_all
  obtain⟨u,h1,h2⟩:=hr.2 off l hl
  exact⟨u,by simp [part,hagg,h1],RepV.one_iff.2 h2⟩
 ·cases h
theorem fieldE_sound {s f:Nat}{x v:PV}{p:Value}(hx:RepV hb η γ w x p)(hl:fieldE P s f x=some v):
  ∃u,(Instr.field s p f).run P w=.ok u w∧RepV hb η γ w v u:=by
 unfold fieldE at hl
 split at hl
 ·split at hl
  ·rename_i o ho
   obtain⟨us,rfl,hr⟩:=hx
   obtain⟨u,h1,h2⟩:=partV_sound (P:=P) hr hl
   refine⟨u,?_,h2⟩
   unfold fldT at ho
   split at ho
   ·rename_i fields hu
    split at ho
    ·rename_i fd hf
     split at ho
     ·cases ho
      simp [Instr.field,run_underlying hu,hf,asAgg,h1]
     ·cases ho
    ·cases ho
   ·cases ho
  ·cases hl
 ·cases hl
theorem elT_sound {t e:TypeId}(h:elT P t=some e):P.underlying t=some (.slice e):=by
 unfold elT at h
 split at h
 ·rename_i hu;cases h;exact hu
 ·cases h
theorem run_size {t s:Nat}(h:szT P t=some s):(sizeOf t).run P w=.ok s w:=by
 obtain⟨i,hi,hs⟩:=Option.map_eq_some_iff.1 h
 simp [sizeOf,typeInfo,hi,hs]
theorem run_index_in {t e s:Nat}{b off len cap:Nat}{k:IntKind}{i:Int}(he:elT P t=some e)(hs:szT P e=some s)(h:0≤i∧i<len):
  (Instr.indexAt t (.slice (some ⟨b,off,none⟩) len cap) (.int k i)).run P w=.ok (.pointer (some ⟨b,off+i.toNat*s,none⟩)) w:=by
 have hu:=elT_sound he
 have hel:P.elem t=e:=by simp [Program.elem,hu]
 rw [run_indexAt_slice w t _ len cap k i (by rw [hel];exact hu),if_pos h,hel,run_size hs]
 simp only [Result.andThen_ok,Addr.add_mid]
theorem arT_sound {t n e:Nat}(h:arT P t=some (n,e)):P.underlying t=some (.array n e):=by
 unfold arT at h
 split at h
 ·rename_i hu;cases h;exact hu
 ·cases h
theorem shiftE_sound {l:PL}{p:Value}{v:PV}{k:Nat}(hx:RepP hb η γ w l p)(h:shiftE k l=some v):∃b o,p=.pointer (some ⟨b,o,none⟩)∧RepV hb η γ w v (.pointer (some ⟨b,o+k,none⟩)):=by
 unfold shiftE at h
 split at h
 ·cases h
  obtain⟨ls',b,h2,h3,rfl⟩:=hx
  exact⟨_,_,rfl,RepV.one_iff.2 ⟨ls',b,h2,h3,rfl⟩⟩
 ·cases h
  obtain⟨fl',e',s',rows',b,c,h2,h3,h4,rfl⟩:=hx
  exact⟨_,_,rfl,RepV.one_iff.2 ⟨fl',e',s',rows',b,c,h2,h3,h4,by rw [Nat.add_assoc]⟩⟩
 ·cases h
  obtain⟨b,o',us,h2,h3,rfl,h4,h5⟩:=hx
  exact⟨_,_,rfl,RepV.one_iff.2 ⟨b,o',us,h2,h3,by rw [Nat.add_assoc],h4,h5⟩⟩
 ·cases h
theorem indexArrE_sound {t:TypeId}{x y v:PV}{p q:Value}(hx:RepV hb η γ w x p)(hy:RepV hb η γ w y q)(hl:indexArrE P t x y=some v):
  ∃u,(Instr.indexAt t p q).run P w=.ok u w∧RepV hb η γ w v u:=by
 unfold indexArrE at hl
 split at hl
 ·rename_i l k i
  obtain⟨rfl,-⟩:=rep_sc hy
  replace hx:=RepV.one_iff.1 hx
  split at hl
  ·rename_i n e he
   split at hl
   ·rename_i s hs
    split at hl
    ·rename_i hi
     obtain⟨b,o,rfl,h1⟩:=shiftE_sound hx hl
     refine⟨_,?_,h1⟩
     simp only [Instr.indexAt,asIntOf,Sem.run_bind,Sem.run_pure,Result.andThen_ok,run_underlying (arT_sound he),Instr.sureAddr,if_pos hi,run_size hs,Addr.add_mid]
    ·cases hl
   ·cases hl
  ·cases hl
 ·cases hl
theorem indexSlE_sound {γ0:Nat→Option Nat}{w0:World}{N:Nat}{st:St}{a:Act}(h:Inv γ0 w0 N st a w η γ){t:TypeId}{x y v:PV}{p q:Value}(hx:RepV (getB st) η γ w x p)(hy:RepV (getB st) η γ w y q)(hl:indexSlE P st t x y=some v):
  ∃u,(Instr.indexAt t p q).run P w=.ok u w∧RepV (getB st) η γ w v u:=by
 unfold indexSlE at hl
 split at hl
 ·rename_i l k i
  obtain⟨rfl,-⟩:=rep_sc hy
  replace hx:=RepV.one_iff.1 hx
  split at hl
  ·rename_i e he
   split at hl
   ·rename_i s hs
    split at hl
    ·rename_i rows
     split at hl
     ·rename_i h0
      split at hl
      ·rename_i row hrow
       split at hl
       ·rename_i hrl
        cases hl
        have hlt:i.toNat<rows.length:=(List.getElem?_eq_some_iff.1 hrow).1
        cases hx with
        |emp _=>simp at hrow
        | @sl _ b off s' cap val h1 h2 h3 h4 h5 h6 h7=>
         have hss:s'=s:=by rw [←hrl];exact(h5 row (List.mem_of_getElem? hrow)).symm
         subst hss
         refine⟨_,run_index_in he hs ⟨h0,by omega⟩,RepV.one_iff.2 ⟨b,off+i.toNat*s',(List.range row.length).map (val i.toNat),h1,h2,rfl,⟨by simp,fun j l hj=>?_⟩,fun j v hj=>?_⟩⟩
         ·have hjl:j<row.length:=(List.getElem?_eq_some_iff.1 hj).1
          exact⟨val i.toNat j,by simp [hjl],h7 _ _ _ _ hrow hj⟩
         ·rw [List.getElem?_map]at hj
          obtain⟨j',hj',rfl⟩:=Option.map_eq_some_iff.1 hj
          have hjl:j<row.length:=by
           have:=(List.getElem?_eq_some_iff.1 hj').1
           simpa using this
          have:j'=j:=by
           rw [List.getElem?_range hjl]at hj'
           cases hj';rfl
          subst this
          exact h6 i.toNat row j' _ hrow (List.getElem?_eq_getElem hjl)
       ·cases hl
      ·cases hl
     ·cases hl
    ·rename_i n
     split at hl
     ·rename_i fl e' s' rows hbx
      split at hl
      ·rename_i hss
       split at hl
       ·rename_i hi
        cases hl
        subst hss
        obtain⟨rfl,_⟩:=hx
        have hB:=h.blks n _ hbx
        obtain⟨xs,⟨hxl,ho⟩,hr,hs',_,_⟩:=hB
        rcases ho with⟨ho,hz⟩|⟨g,cap,cur,hg,_⟩
        ·omega
        ·rw [hg]
         refine⟨_,run_index_in he hs hi,RepV.one_iff.2 ⟨fl,e',s',rows,g,cap,hbx,by omega,hg,by simp⟩⟩
       ·cases hl
      ·cases hl
     ·cases hl
    ·rename_i n off len
     split at hl
     ·rename_i fl e' s' rows hbx
      split at hl
      ·rename_i hss
       split at hl
       ·rename_i hi
        cases hl
        subst hss
        obtain⟨fl1,e1,s1,rows1,h1,h2,h3⟩:=hx
        rw [hbx]at h1
        cases h1
        rcases h3 with⟨_,_,hz⟩|⟨b,c,cap,h3,rfl,h4,h5⟩
        ·omega
        ·refine⟨_,run_index_in he hs hi,RepV.one_iff.2 ⟨_,_,_,_,b,c,hbx,by omega,h3,by simp [Nat.add_mul]⟩⟩
       ·cases hl
      ·cases hl
     ·cases hl
    ·rename_i v0 rows
     obtain⟨_,hx⟩:=hx
     split at hl
     ·rename_i h0
      split at hl
      ·rename_i row hrow
       split at hl
       ·rename_i hrl
        cases hl
        have hlt:i.toNat<rows.length:=(List.getElem?_eq_some_iff.1 hrow).1
        cases hx with
        |emp _=>simp at hrow
        | @sl _ b off s' cap val h1 h2 h3 h4 h5 h6 h7=>
         have hss:s'=s:=by rw [←hrl];exact(h5 row (List.mem_of_getElem? hrow)).symm
         subst hss
         refine⟨_,run_index_in he hs ⟨h0,by omega⟩,RepV.one_iff.2 ⟨b,off+i.toNat*s',(List.range row.length).map (val i.toNat),h1,h2,rfl,⟨by simp,fun j l hj=>?_⟩,fun j v hj=>?_⟩⟩
         ·have hjl:j<row.length:=(List.getElem?_eq_some_iff.1 hj).1
          exact⟨val i.toNat j,by simp [hjl],h7 _ _ _ _ hrow hj⟩
         ·rw [List.getElem?_map]at hj
          obtain⟨j',hj',rfl⟩:=Option.map_eq_some_iff.1 hj
          have hjl:j<row.length:=by
           have:=(List.getElem?_eq_some_iff.1 hj').1
           simpa using this
          have:j'=j:=by
           rw [List.getElem?_range hjl]at hj'
           cases hj';rfl
          subst this
          exact h6 i.toNat row j' _ hrow (List.getElem?_eq_getElem hjl)
       ·cases hl
      ·cases hl
     ·cases hl
    ·cases hl
   ·cases hl
  ·cases hl
 ·cases hl
theorem indexAddrE_sound {γ0:Nat→Option Nat}{w0:World}{N:Nat}{st:St}{a:Act}(h:Inv γ0 w0 N st a w η γ){t:TypeId}{x y v:PV}{p q:Value}(hx:RepV (getB st) η γ w x p)(hy:RepV (getB st) η γ w y q)(hl:indexAddrE P st t x y=some v):
  ∃u,(Instr.indexAt t p q).run P w=.ok u w∧RepV (getB st) η γ w v u:=by
 unfold indexAddrE at hl
 split at hl
 ·exact indexArrE_sound hx hy hl
 ·exact indexSlE_sound h hx hy hl
theorem isStr_sound {t:TypeId}(h:isStrT P t=true):P.underlying t=some .string:=by
 unfold isStrT at h
 split at h
 ·assumption
 ·cases h
theorem indexStE_sound {t:TypeId}{x y v:PV}{p q:Value}(hx:RepV hb η γ w x p)(hy:RepV hb η γ w y q)(hl:indexStE P t x y=some v):
  ∃u,(Instr.index t p q).run P w=.ok u w∧RepV hb η γ w v u:=by
 unfold indexStE at hl
 split at hl
 ·rename_i s k i
  obtain⟨rfl,-⟩:=rep_sc hy
  obtain⟨rfl,-⟩:=rep_sc hx
  split at hl
  ·rename_i ht
   obtain⟨b,h1,rfl⟩:=Option.map_eq_some_iff.1 hl
   unfold strIdx at h1
   split at h1
   ·rename_i h0
    obtain⟨h2,h3⟩:=List.getElem?_eq_some_iff.1 h1
    have hlt:0≤i∧i<s.size:=⟨h0,by have:i.toNat<s.size:=(by simpa using h2);omega⟩
    refine⟨_,by rw [run_index_string w t s k i (isStr_sound ht),dif_pos hlt],?_⟩
    have:s[i.toNat]'(by omega)=b:=by rw [←h3];rfl
    rw [this]
    exact rep_mk rfl
   ·cases h1
  ·cases hl
 ·cases hl
theorem indexArrV_sound {t:TypeId}{x y v:PV}{p q:Value}(hx:RepV hb η γ w x p)(hy:RepV hb η γ w y q)(hl:indexArrV P t x y=some v):
  ∃u,(Instr.index t p q).run P w=.ok u w∧RepV hb η γ w v u:=by
 unfold indexArrV at hl
 split at hl
 ·rename_i ls k i
  obtain⟨rfl,-⟩:=rep_sc hy
  split at hl
  ·rename_i n e he
   split at hl
   ·rename_i s hs
    split at hl
    ·rename_i hi
     obtain⟨us,rfl,hr⟩:=hx
     obtain⟨u,h1,h2⟩:=partV_sound (P:=P) hr hl
     refine⟨u,?_,h2⟩
     simp only [Instr.index,asIntOf,Sem.run_bind,Sem.run_pure,Result.andThen_ok,run_underlying (arT_sound he),if_pos hi,run_size hs,h1]
    ·cases hl
   ·cases hl
  ·cases hl
 ·cases hl
theorem indexE_sound {t:TypeId}{x y v:PV}{p q:Value}(hx:RepV hb η γ w x p)(hy:RepV hb η γ w y q)(hl:indexE P t x y=some v):
  ∃u,(Instr.index t p q).run P w=.ok u w∧RepV hb η γ w v u:=by
 unfold indexE at hl
 split at hl
 ·exact indexArrV_sound hx hy hl
 ·exact indexStE_sound hx hy hl
theorem run_bounds (isSlice:Bool)(len cap:Nat)(lo hi:Option Value)(l h:Nat)(hlo:(lo=none∧l=0)∨∃k,lo=some (.int k l))(hhi:(hi=none∧h=len)∨∃k,hi=some (.int k h))(h1:l≤h)(h2:h≤cap):
  (Instr.sliceBounds isSlice len cap lo hi none).run P w=.ok (l,h,cap) w:=by
 have e1:∀k c,(Instr.sliceBound (.int k (l:Int)) h c).run P w=.ok l w:=fun k c=>by rw [run_sliceBound_if w,if_pos (by omega)];simp
 have e2:∀k c,(Instr.sliceBound (.int k (h:Int)) cap c).run P w=.ok h w:=fun k c=>by rw [run_sliceBound_if w,if_pos (by omega)];simp
 rcases hlo with⟨rfl,rfl⟩|⟨k,rfl⟩<;>rcases hhi with⟨rfl,rfl⟩|⟨k',rfl⟩<;>simp [Instr.sliceBounds,e1,e2]
end
end PD
section PE
instance {s:Nat}{rows:List (List Leaf)}:Decidable (wid s rows):=by unfold wid;infer_instance
def sliceE (P:Program)(st:St)(t:TypeId)(x:PV)(lo hi:Option PV):Option PV:=
 match x with
 |.comp false [.sc (.string s)]=>
  if isStrT P t then match boundE 0 lo,boundE s.size hi with
   |some l,some h=>if 0≤l∧l≤h∧h≤s.size then some (one (.sc (.string (s.extract l.toNat h.toNat))))else none
   |_,_=>none
  else none
 |.comp false [pl]=>match elT P t with
  |some e=>match szT P e,lenE st x with
   |some s,some n=>match boundE 0 lo,boundE n hi with
    |some l,some h=>if 0≤l∧l≤h∧h≤n then(subE st s pl l.toNat h.toNat).map one else none
    |_,_=>none
   |_,_=>none
  |none=>none
 |_=>none
def convE (P:Program)(st:St)(src dst:TypeId):PV→Option PV
 |.comp false [.sc (.int _ n)]=>match P.underlying src,intT P dst with
  |some _,some k=>(ar k n).map fun v=>one (.sc v)
  |_,_=>none
 |.comp false [l]=>match elT P src with
  |some e=>match intT P e with
   |some .u8=>if isStrT P dst=true∧szT P e=some 1 then match l with
     |.nil=>some (one (.sc (.string .empty)))
     |.sl rows=>(bytesE rows).map fun bs=>one (.sc (.string ⟨bs.toArray⟩))
     |.all n=>match getB st n with
      |some (.arr _ _ _ rows)=>(bytesE rows).map fun bs=>one (.sc (.string ⟨bs.toArray⟩))
      |_=>none
     |_=>none
    else none
   |_=>none
  |none=>none
 |_=>none
def minE:Bool→PV→PV→Option PV
 |big,.comp false [.sc (.int k x)],.comp false [.sc (.int _ y)]=>some (one (.sc (.int k (if big then(if y>x then y else x)else(if y<x then y else x)))))
 |_,_,_=>none
def scal (f:Value→Value→Option Value):PV→PV→Option PV
 |.comp false [.sc a],.comp false [.sc b]=>(f a b).map fun v=>one (.sc v)
 |_,_=>none
def nilE:PV→Option PV
 |.comp false [.ptr n o]=>some (one (.ptr n o))
 |.comp false [.pel n i o]=>some (one (.pel n i o))
 |.comp false [.prow c o]=>some (one (.prow c o))
 |_=>none
def tupE (i:Nat):PV→Option PV
 |.tup vs=>(vs[i]?).map fun v=>.comp v.1 v.2
 |_=>none
def capsE:List PV→Option (List Nat)
 |[]=>some []
 |.comp false [.ptr n 0]::r=>(capsE r).map (n::·)
 |_=>none
section
variable {P:Program}{γ0:Nat→Option Nat}{w0:World}{N:Nat}{st:St}{a:Act}{w:World}{η:Nat→Value}{γ:Nat→Option Nat}
theorem boundE_sound {d r:Int}{x:Option PV}{p:Option Value}(hx:(x=none∧p=none)∨∃v u,x=some v∧p=some u∧RepV (getB st) η γ w v u)(h:boundE d x=some r):(p=none∧r=d)∨∃k,p=some (.int k r):=by
 rcases hx with⟨rfl,rfl⟩|⟨v,u,rfl,rfl,hr⟩
 ·simp only [boundE,Option.some.injEq]at h
  exact .inl ⟨rfl,h.symm⟩
 ·unfold boundE at h
  split at h
  ·rename_i h';cases h'
  ·rename_i k i h'
   cases h'
   cases h
   obtain⟨rfl,-⟩:=rep_sc hr
   exact .inr ⟨k,rfl⟩
  ·cases h
theorem lenE_sound (h:Inv γ0 w0 N st a w η γ){l:PL}{n:Int}{u:Value}(hx:RepP (getB st) η γ w l u)(hs:∀s,l≠.sc (.string s))(hl:lenE st (one l)=some n):∃A len cap,u=.slice A len cap∧n=(len:Int)∧len≤cap∧cap≤maxLen:=by
 unfold lenE at hl
 simp only at hl
 split at hl
 ·cases hl;cases hx;exact⟨none,0,0,rfl,rfl,Nat.le_refl _,Nat.zero_le _⟩
 ·rename_i rows
  cases hl
  cases hx with
  |emp hc=>exact⟨_,0,_,rfl,rfl,Nat.zero_le _,hc⟩
  |sl val h1 h2 h3 h4 h5 h6 h7=>exact⟨_,_,_,rfl,rfl,h3,h4⟩
 ·rename_i m
  split at hl
  ·rename_i fl e s rows hbx
   cases hl
   obtain⟨rfl,_⟩:=hx
   obtain⟨xs,⟨hxl,ho⟩,_⟩:=h.blks m _ hbx
   rcases ho with⟨ho,hz⟩|⟨g,cap,cur,hg,_,_,h1,h2,_⟩
   ·rw [ho,hz];exact⟨none,0,0,rfl,rfl,Nat.le_refl _,Nat.zero_le _⟩
   ·rw [hg];exact⟨_,_,_,rfl,rfl,h1,h2⟩
  ·cases hl
 ·rename_i m off len
  cases hl
  obtain⟨fl,e,s,rows,h1,h2,h3⟩:=hx
  rcases h3 with⟨_,rfl,rfl⟩|⟨b,c,cap,_,rfl,h4,h5,_⟩
  ·exact⟨none,0,0,rfl,rfl,Nat.le_refl _,Nat.zero_le _⟩
  ·exact⟨_,_,_,rfl,rfl,h4,h5⟩
 ·rename_i s
  exact absurd rfl (hs s)
 ·rename_i v rows
  cases hl
  obtain⟨_,hx⟩:=hx
  cases hx with
  |emp hc=>exact⟨_,0,_,rfl,rfl,Nat.zero_le _,hc⟩
  |sl val h1 h2 h3 h4 h5 h6 h7=>exact⟨_,_,_,rfl,rfl,h3,h4⟩
 ·cases hl
theorem addr_if (b off m l s:Nat)(hne:l<m∨l=0):(if m=l then some (⟨b,off,none⟩:Addr)else(some (⟨b,off,none⟩:Addr)).map (·.add (l*s)))=some ⟨b,off+l*s,none⟩:=by
 rcases hne with h|rfl
 ·rw [if_neg (by omega)];simp [Addr.add_mid]
 ·by_cases hm:m=0
  ·rw [if_pos hm];simp
  ·rw [if_neg hm];simp [Addr.add_mid]
theorem run_slice_at {t e s:Nat}(he:elT P t=some e)(hs:szT P e=some s)(A:Option Addr)(len cap:Nat)(lo hi:Option Value)(l h:Nat)(hlo:(lo=none∧l=0)∨∃k,lo=some (.int k l))(hhi:(hi=none∧h=len)∨∃k,hi=some (.int k h))(h1:l≤h)(h2:h≤cap):
  (Instr.sliceAt t (.slice A len cap) lo hi none).run P w=.ok (.slice (if cap=l then A else A.map (·.add (l*s))) (h-l) (cap-l)) w:=by
 have hu:=elT_sound he
 have hb:=run_bounds (P:=P) (w:=w) true len cap lo hi l h hlo hhi h1 h2
 simp [Instr.sliceAt,run_underlying hu,Instr.slice,hb,run_size hs]
theorem RepL.part {rows:List (List Leaf)}{b off s cap l h:Nat}{val:Nat→Nat→Value}(h1:γ b=none)(h2:b<w.heap.size)(h3:rows.length≤cap)(h4:cap≤maxLen)(h5:∀row∈rows,row.length=s)
  (h6:∀(i:Nat) (row:List Leaf) (j:Nat) (l:Leaf),rows[i]?=some row→row[j]?=some l→w.cell? ⟨b,off+i*s+j,none⟩=some (val i j))
  (h7:∀(i:Nat) (row:List Leaf) (j:Nat) (l:Leaf),rows[i]?=some row→row[j]?=some l→RepL w γ l (val i j)) (hl:l≤h) (hh:h≤rows.length):
  RepL w γ (.sl ((rows.take h).drop l)) (.slice (some ⟨b,off+l*s,none⟩) (h-l) (cap-l)):=by
 have hlen:((rows.take h).drop l).length=h-l:=by simp;omega
 have hget:∀(i:Nat) (row:List Leaf),((rows.take h).drop l)[i]?=some row→rows[l+i]?=some row:=by
  intro i row hi
  rw [List.getElem?_drop,List.getElem?_take]at hi
  split at hi
  ·exact hi
  ·cases hi
 have:=RepL.sl (w:=w) (γ:=γ) (rows:=(rows.take h).drop l) (b:=b) (off:=off+l*s) (s:=s) (cap:=cap-l) (fun i j=>val (l+i) j) h1 h2 (by rw [hlen];omega) (by omega)
  (fun row hr=>h5 row (List.mem_of_mem_take (List.mem_of_mem_drop hr)))
  (fun i row j x hi hj=>by have:=h6 (l+i) row j x (hget i row hi) hj;rw [Nat.add_mul,←Nat.add_assoc]at this;exact this)
  (fun i row j x hi hj=>h7 (l+i) row j x (hget i row hi) hj)
 rw [hlen]at this
 exact this
theorem subE_sound (h:Inv γ0 w0 N st a w η γ){t e s:Nat}(he:elT P t=some e)(hs:szT P e=some s){pl v:PL}{u:Value}{n:Int}{lo hi:Option Value}{l r:Nat}(hx:RepP (getB st) η γ w pl u)(hstr:∀s,pl≠.sc (.string s))(hn:lenE st (one pl)=some n)
  (hlo:(lo=none∧l=0)∨∃k,lo=some (.int k l)) (hhi:(hi=none∧(r:Int)=n)∨∃k,hi=some (.int k r)) (h1:l≤r) (h2:(r:Int)≤n) (hv:subE st s pl l r=some v):
  ∃u',(Instr.sliceAt t u lo hi none).run P w=.ok u' w∧RepP (getB st) η γ w v u':=by
 obtain⟨A,len,cap,rfl,rfl,h3,h4⟩:=lenE_sound h hx hstr hn
 have hr:r≤len:=by omega
 have hrun:=run_slice_at (P:=P) (w:=w) he hs A len cap lo hi l r hlo (by rcases hhi with⟨h5,h6⟩|h5;exact .inl ⟨h5,by omega⟩;exact .inr h5) h1 (by omega)
 refine⟨_,hrun,?_⟩
 have hemp:l=r→RepP (getB st) η γ w (.sl []) (.slice (if cap=l then A else A.map (·.add (l*s))) (r-l) (cap-l)):=by
  intro hlr
  have:r-l=0:=by omega
  rw [this]
  exact RepL.emp (by omega)
 unfold subE at hv
 split at hv
 ·cases hv
  cases hx
  have e1:l=0:=by omega
  have e2:r=0:=by omega
  subst e1;subst e2
  simp [RepP]
 ·rename_i rows
  split at hv
  ·rename_i hrow
   cases hv
   cases hx with
   |emp hc=>
    have e1:l=0:=by omega
    have e2:r=0:=by omega
    subst e1;subst e2
    exact RepL.emp (by omega)
   | @sl _ b off s' cap' val g1 g2 g3 g4 g5 g6 g7=>
    rcases hrow with rfl|⟨row,hrow,hrl⟩
    ·have e1:l=0:=by simp at hr;omega
     have e2:r=0:=by simp at hr;omega
     subst e1;subst e2
     exact RepL.emp (by omega)
    ·have hss:s'=s:=by rw [←hrl];exact(g5 row (List.mem_of_getElem? hrow)).symm
     subst hss
     have hlt:l<rows.length:=(List.getElem?_eq_some_iff.1 hrow).1
     rw [addr_if b off cap l s' (.inl (by omega))]
     exact RepL.part g1 g2 g3 g4 g5 g6 g7 h1 hr
  ·split at hv
   ·rename_i hlr
    cases hv
    exact hemp hlr
   ·cases hv
 ·rename_i m
  split at hv
  ·rename_i fl e' s' rows hbx
   split at hv
   ·rename_i hss
    subst hss
    obtain⟨hη,_⟩:=hx
    simp only [lenE,hbx,Option.some.injEq]at hn
    have hlen:rows.length=len:=by omega
    obtain⟨xs,⟨hxl,ho⟩,_⟩:=h.blks m _ hbx
    split at hv
    ·rename_i hc
     cases hv
     refine⟨fl,e',s',rows,hbx,by omega,?_⟩
     rcases ho with⟨ho,hz⟩|⟨g,cap',cur,hg,_,_,g1,g2,_⟩
     ·rw [ho]at hη
      cases hη
      refine .inl ⟨ho,?_,by omega⟩
      have e1:l=0:=by omega
      have e2:r=0:=by omega
      subst e1;subst e2
      simp
     ·rw [hg]at hη
      cases hη
      refine .inr ⟨g,_,cap-l,hg,?_,by omega,by omega,by omega⟩
      rw [addr_if g 0 cap l s' (by omega)]
      simp
    ·rename_i hc
     cases hv
     exact hemp (by omega)
   ·cases hv
  ·cases hv
 ·rename_i m off len'
  split at hv
  ·rename_i fl e' s' rows hbx
   split at hv
   ·rename_i hss
    subst hss
    obtain⟨fl1,e1,s1,rows1,g1,g2,g3⟩:=hx
    rw [hbx]at g1
    cases g1
    simp only [lenE,Option.some.injEq]at hn
    have hlen:len'=len:=by omega
    subst hlen
    split at hv
    ·rename_i hc
     cases hv
     refine⟨fl,e',s',rows,hbx,by omega,?_⟩
     rcases g3 with⟨g4,g5,g6⟩|⟨b,c,cap',g4,g5,g6,g7,g8⟩
     ·cases g5
      refine .inl ⟨g4,?_,by omega⟩
      have e1:l=0:=by omega
      have e2:r=0:=by omega
      subst e1;subst e2
      simp
     ·cases g5
      refine .inr ⟨b,c,cap-l,g4,?_,by omega,by omega,by omega⟩
      rw [addr_if b (off*s') cap l s' (by omega),Nat.add_mul]
    ·rename_i hc
     cases hv
     exact hemp (by omega)
   ·cases hv
  ·cases hv
 ·cases hv
end
end PE
section PEb
section
variable {P:Program}{γ0:Nat→Option Nat}{w0:World}{N:Nat}{st:St}{a:Act}{w:World}{η:Nat→Value}{γ γ':Nat→Option Nat}
def PL.live:PL→Bool
 |.dead=>false
 |.udf=>false
 |_=>true
theorem Inv.oneC (h:Inv γ0 w0 N st a w η γ){l:PL}{u:Value}(hr:RepP (getB st) η γ w l u)(hd:l.live=true):u.oneCell'=true:=by
 cases l with
 |sc v=>obtain⟨rfl,h1⟩:=hr;exact h1
 |nil=>cases hr;rfl
 |sl rows=>cases hr<;>rfl
 |all n=>
  obtain⟨rfl,fl,e,s,rows,hbx⟩:=hr
  obtain⟨xs,⟨hxl,ho⟩,_⟩:=h.blks n _ hbx
  rcases ho with⟨ho,hz⟩|⟨g,cap,cur,hg',_⟩
  ·rw [ho];rfl
  ·rw [hg'];rfl
 |ref n off len=>
  obtain⟨fl1,e1,s1,rows1,h1,h2,h3⟩:=hr
  rcases h3 with⟨_,rfl,rfl⟩|⟨b,c,cap,h4,rfl,h5,h6⟩<;>rfl
 |ptr n off=>obtain⟨ls,b,h1,h2,rfl⟩:=hr;rfl
 |pel n i off=>obtain⟨fl,e,s,rows,b,c,h1,h2,h3,rfl⟩:=hr;rfl
 |prow cells off=>obtain⟨b,o,us,h1,h2,rfl,_⟩:=hr;rfl
 |lit n=>obtain⟨ls,b,h1,h2,rfl⟩:=hr;rfl
 |fn f cap=>obtain⟨rfl,_⟩:=hr;rfl
 |clo f boxes=>obtain⟨bs,rfl,_⟩:=hr;rfl
 |xl v rows=>obtain⟨_,hr⟩:=hr;cases hr<;>rfl
 |dead=>cases hd
 |udf=>cases hd
theorem Inv.cells (h:Inv γ0 w0 N st a w η γ){g:Bool}{ls:List PL}{u:Value}(hr:RepC (getB st) η γ w g ls u)(hd:ls.all PL.live=true):
  RepPs (getB st) η γ w ls u.cells.toList∧(∀v∈u.cells.toList,v.oneCell'=true)∧(u.cells= #[u]∨u=.agg u.cells):=by
 have key:∀us:List Value,RepPs (getB st) η γ w ls us→∀v∈us,v.oneCell'=true:=by
  intro us hus v hv
  obtain⟨j,hj,rfl⟩:=List.getElem_of_mem hv
  have hjl:j<ls.length:=by rw [←hus.1];exact hj
  obtain⟨u',h1,h2⟩:=hus.2 j _ (List.getElem?_eq_getElem hjl)
  rw [List.getElem?_eq_getElem hj]at h1
  cases h1
  exact h.oneC h2 (List.all_eq_true.1 hd _ (List.getElem_mem hjl))
 cases g with
 |true=>
  obtain⟨us,rfl,h1⟩:=hr
  exact⟨h1,key us h1,.inr rfl⟩
 |false=>
  obtain⟨l,rfl,h1⟩:=hr
  have h2:=h.oneC h1 (by simpa using hd)
  have h3:u.cells= #[u]:=by cases u<;>first|rfl|cases h2
  have h4:RepPs (getB st) η γ w [l] [u]:=⟨rfl,fun j l' hj=>by
   cases j with
   |zero=>simp at hj;subst hj;exact⟨u,rfl,h1⟩
   |succ j=>simp at hj⟩
  rw [h3]
  exact⟨h4,key _ h4,.inl rfl⟩
theorem zip_set:∀(vs:List Value) (k off:Nat) (cs:List Value),off+k+vs.length≤cs.length→
  (vs.zipIdx k).foldl (fun(cs:Array Value) (p:Value×Nat)=>cs.setIfInBounds (off+p.2) p.1) cs.toArray=(cs.take (off+k)++vs++cs.drop (off+k+vs.length)).toArray
 |[],k,off,cs,_=>by simp
 |v::vs,k,off,cs,h=>by
  simp only [List.length_cons]at h
  simp only [List.zipIdx_cons,List.foldl_cons]
  have e:cs.toArray.setIfInBounds (off+k) v=(cs.set (off+k) v).toArray:=by simp
  rw [e,zip_set vs (k+1) off (cs.set (off+k) v) (by simp;omega)]
  congr 1
  have h1:=list_seg_step cs (off+k) v vs (by omega)
  simp only [List.length_cons]
  have e1:off+(k+1)=off+k+1:=by omega
  rw [e1]
  exact h1
theorem splice_cells {hb:Nat→Option Blk}{cells ls:List PL}{cs us:List Value}{off:Nat}(h1:RepPs hb η γ w cells cs)(h2:RepPs hb η γ w ls us)(ho:off+ls.length≤cells.length):
  RepPs hb η γ w (cells.take off++ls++cells.drop (off+ls.length)) (cs.take off++us++cs.drop (off+ls.length)):=by
 have l1:(cells.take off).length=off:=by simp;omega
 have l2:(cs.take off).length=off:=by simp [h1.1];omega
 refine⟨by simp [h1.1,h2.1],fun j l hj=>?_⟩
 rw [List.append_assoc]at hj⊢
 rw [List.getElem?_append,l1]at hj
 rw [List.getElem?_append,l2]
 split at hj
 ·rename_i hlt
  rw [if_pos hlt]
  rw [List.getElem?_take,if_pos hlt]at hj⊢
  exact h1.2 j l hj
 ·rename_i hlt
  rw [if_neg hlt]
  rw [List.getElem?_append]at hj
  rw [List.getElem?_append,h2.1]
  split at hj
  ·rename_i hlt2
   rw [if_pos hlt2]
   exact h2.2 _ l hj
  ·rename_i hlt2
   rw [if_neg hlt2]
   rw [List.getElem?_drop]at hj⊢
   exact h1.2 _ l hj
def fillE (place:Nat→Option (Nat×Nat))(cells:List PL):List (Nat×PV)→Option (List PL)
 |[]=>some cells
 |(i,.comp _ ls)::r=>match place i with
  |some (off,size)=>if ls.length=size∧off+size≤cells.length∧ls.all PL.live=true then fillE place (cells.take off++ls++cells.drop (off+size)) r else none
  |none=>none
 |_=>none
def placesT (P:Program):List Go.Field→Option (List (Nat×Nat))
 |[]=>some []
 |f::r=>match szT P f.type,placesT P r with
  |some s,some l=>some ((f.offset,s)::l)
  |_,_=>none
def partsT (P:Program)(t:TypeId):Option (Nat→Option (Nat×Nat)):=
 match P.underlying t with
 |some (.struct fields)=>(placesT P fields.toList).map fun l i=>l[i]?
 |some (.array _ e)=>(szT P e).map fun s i=>some (i*s,s)
 |_=>none
def buildE (P:Program)(st:St)(t:TypeId)(parts:List (Nat×Operand)):Option PV:=
 match partsT P t,zeroT P t with
 |some pl,some z=>(fillE pl (z.cells.toList.map cl) (parts.map fun p=>(p.1,ev st p.2))).map (.comp true)
 |_,_=>none
theorem fillE_sound (h:Inv γ0 w0 N st a w η γ){place:Nat→Option (Nat×Nat)}:∀(parts:List (Nat×Operand)) {cells out:List PL} {cs:List Value} (_:fillE place cells (parts.map fun p=>(p.1,ev st p.2))=some out) (_:RepPs (getB st) η γ w cells cs),
  ∃us:List Value,Instr.fill place cs.toArray (parts.map fun p=>(p.1,a.eval p.2))=some us.toArray∧RepPs (getB st) η γ w out us
 |[],cells,out,cs,hf,hr=>by
  simp only [List.map_nil,fillE,Option.some.injEq]at hf
  subst hf
  exact⟨cs,rfl,hr⟩
 |(i,x)::r,cells,out,cs,hf,hr=>by
  rw [List.map_cons]at hf
  have hx:=ev_sound h x
  simp only at hf
  generalize hev:ev st x=v at hf hx
  unfold fillE at hf
  split at hf
  ·rename_i h';cases h'
  ·rename_i i0 g0 ls r0 h'
   injection h' with e1 e2
   injection e1 with e1 e3
   subst e1;subst e2;subst e3
   split at hf
   ·rename_i off size hp
    split at hf
    ·rename_i hc
     obtain⟨hls,hle,hlive⟩:=hc
     obtain⟨g1,g2,g3⟩:=h.cells hx hlive
     subst hls
     obtain⟨us,q1,q2⟩:=fillE_sound h r hf (splice_cells hr g1 hle)
     refine⟨us,?_,q2⟩
     have hsz:(a.eval x).cells.toList.length=ls.length:=g1.1
     have hs2:(a.eval x).cells.size=ls.length:=by rw [←Array.length_toList];exact hsz
     have hcl:=hr.1
     have hif:¬(decide ((a.eval x).cells.size≠ls.length)||decide (off+(a.eval x).cells.size>cs.toArray.size))=true:=by
      rw [hs2]
      simp
      omega
     simp only [List.map_cons,Instr.fill,hp]
     rw [if_neg hif]
     have hz:(Array.foldl (fun cs x=>cs.setIfInBounds (off+x.snd) x.fst) cs.toArray (a.eval x).cells.zipIdx)=(cs.take off++(a.eval x).cells.toList++cs.drop (off+ls.length)).toArray:=by
      have:=zip_set (a.eval x).cells.toList 0 off cs (by omega)
      rw [←Array.foldl_toList,Array.toList_zipIdx]
      simpa [hsz,hs2]using this
     have hz':(Array.foldl (fun cs x=>match x with|(c,j)=>cs.setIfInBounds (off+j) c) cs.toArray (a.eval x).cells.zipIdx)=(cs.take off++(a.eval x).cells.toList++cs.drop (off+ls.length)).toArray:=hz
     rw [hz']
     exact q1
    ·cases hf
   ·cases hf
  ·cases hf
theorem places_run:∀{fields:List Go.Field} {l:List (Nat×Nat)} (_:placesT P fields=some l),(fields.mapM fun(f:Go.Field)=>(do pure (f.offset,←sizeOf f.type):Sem (Nat×Nat))).run P w=.ok l w
 |[],l,h=>by
  simp only [placesT,Option.some.injEq]at h
  subst h
  rfl
 |f::r,l,h=>by
  unfold placesT at h
  split at h
  ·rename_i s q h1 h2
   cases h
   have ih:=places_run h2
   rw [List.mapM_cons]
   simp only [Sem.run_bind,run_size h1,Result.andThen_ok,Sem.run_pure,ih]
  ·cases h
theorem buildE_sound (h:Inv γ0 w0 N st a w η γ){t:TypeId}{parts:Array (Nat×Operand)}{v:PV}(hv:buildE P st t parts.toList=some v):
  ∃u,(Instr.build t (parts.map fun p=>(p.1,a.eval p.2))).run P w=.ok u w∧RepV (getB st) η γ w v u:=by
 unfold buildE at hv
 split at hv
 ·rename_i pl z hpl hz
  obtain⟨out,h1,rfl⟩:=Option.map_eq_some_iff.1 hv
  obtain⟨i,hi,hz⟩:=Option.bind_eq_some_iff.1 hz
  obtain⟨us,h2,h3⟩:=fillE_sound h parts.toList h1 (cs:=z.cells.toList) ⟨by simp,fun j l hj=>by
   rw [List.getElem?_map]at hj
   obtain⟨u,h1,rfl⟩:=Option.map_eq_some_iff.1 hj
   exact⟨u,h1,cl_sound u⟩⟩
  refine⟨.agg us.toArray,?_,⟨us,rfl,h3⟩⟩
  have hzr:(zeroValue t).run P w=.ok z w:=by simp [zeroValue,typeInfo,hi,hz]
  have hps:(parts.map fun p=>(p.1,a.eval p.2)).toList=parts.toList.map fun p=>(p.1,a.eval p.2):=by simp
  unfold partsT at hpl
  split at hpl
  ·rename_i fields hu
   obtain⟨l,h4,rfl⟩:=Option.map_eq_some_iff.1 hpl
   have h5:=places_run (w:=w) h4
   have h6:(fields.mapM fun(f:Go.Field)=>(do pure (f.offset,←sizeOf f.type):Sem (Nat×Nat))).run P w=.ok l.toArray w:=by
    have:(fields.mapM fun(f:Go.Field)=>(do pure (f.offset,←sizeOf f.type):Sem (Nat×Nat)))=(do let x←fields.toList.mapM (fun(f:Go.Field)=>(do pure (f.offset,←sizeOf f.type):Sem (Nat×Nat)));pure x.toArray):=by
     rw [Array.mapM_eq_mapM_toList]
     rfl
    rw [this]
    simp only [Sem.run_bind,h5,Result.andThen_ok,Sem.run_pure]
   have h7:Instr.fill (fun i=>l.toArray[i]?) z.cells (parts.map fun p=>(p.1,a.eval p.2)).toList=some us.toArray:=by
    rw [hps]
    simpa using h2
   simp only [Instr.build,Sem.run_bind,hzr,Result.andThen_ok,run_underlying hu,h6,h7,Sem.run_pure]
  ·rename_i n e hu
   obtain⟨s,h4,rfl⟩:=Option.map_eq_some_iff.1 hpl
   have h7:Instr.fill (fun i=>some (i*s,s)) z.cells (parts.map fun p=>(p.1,a.eval p.2)).toList=some us.toArray:=by
    rw [hps]
    simpa using h2
   simp only [Instr.build,Sem.run_bind,hzr,Result.andThen_ok,run_underlying hu,run_size h4,h7,Sem.run_pure]
  ·cases hpl
 ·cases hv
end
end PEb
section PEc
def kindOf (P:Program)(t:TypeId):Option Nat:=
 match P.underlying t with
 |some (.int _)=>some 0
 |some .bool=>some 1
 |some .string=>some 2
 |_=>none
def eqFs (P:Program):List Go.Field→Option (List (Nat×Nat))
 |[]=>some []
 |f::r=>if f.name≠ "_" ∧rowT P f.type=some false then
   match kindOf P f.type,eqFs P r with
   |some k,some l=>some ((f.offset,k)::l)
   |_,_=>none
  else none
def eqTab (P:Program)(t:TypeId):Option (List (Nat×Nat)):=
 match P.underlying t with
 |some (.struct fs)=>if P.stoodInHeld t=false∧P.eqGuardType P.depth t=false then eqFs P fs.toList else none
 |_=>none
def eqVal:Nat→Value→Value→Option Bool
 |0,.int k a,.int k' b=>if k=k' then some (decide (a=b))else none
 |1,.bool a,.bool b=>some (a==b)
 |2,.string a,.string b=>some (decide (a=b))
 |_,_,_=>none
def eqCells:List (Nat×Nat)→List PL→List PL→Option Bool
 |[],_,_=>some true
 |(o,k)::r,xs,ys=>match xs[o]?,ys[o]? with
  |some (.sc u),some (.sc v)=>match eqVal k u v,eqCells r xs ys with
   |some p,some q=>some (p&&q)
   |_,_=>none
  |_,_=>none
def eqOp:BinOp→Bool→Option PV
 |.eql,b=>some (one (.sc (.bool b)))
 |.neq,b=>some (one (.sc (.bool !b)))
 |_,_=>none
def binE (P:Program)(op:BinOp)(t:TypeId):PV→PV→Option PV
 |.comp true xs,.comp true ys=>match eqTab P t with
  |some l=>match eqCells l xs ys with
   |some b=>eqOp op b
   |none=>none
  |none=>none
 |x,y=>scal (pbin P op t) x y
section
variable {P:Program}{hb:Nat→Option Blk}{η:Nat→Value}{γ:Nat→Option Nat}{w:World}
theorem ar_one {k:IntKind}{n:Int}{v:Value}(h:ar k n=some v):v.oneCell'=true:=by rw [ar_eq h];rfl
theorem pbin_one {op:BinOp}{t:TypeId}{x y v:Value}(h:pbin P op t x y=some v):v.oneCell'=true:=by
 unfold pbin at h
 split at h
 ·rename_i k n k' m
  have key:∀op,pint op k n m=some v→v.oneCell'=true:=by
   intro op h
   cases op<;>simp only [pint]at h<;>first
    |exact ar_one h
    |(cases h;rfl)
    |(split at h;cases h;first|exact ar_one h|(cases h;rfl))
    |cases h
  cases op<;>simp only at h<;>first
   |(split at h;exact key _ h;cases h)
   |(split at h;cases h;first|exact ar_one h|(cases h;rfl))
 ·cases op<;>simp only [pstr]at h<;>first
   |(cases h;rfl)
   |(split at h;(cases h;rfl);cases h)
   |cases h
 ·split at h<;>first|(cases h;rfl)|cases h
 ·cases h
theorem eqVal_sound {t k d:Nat}{u v:Value}{b:Bool}(hk:kindOf P t=some k)(h:eqVal k u v=some b):(Op.equalIn (d+1) t u v).run P w=.ok b w:=by
 unfold eqVal at h
 split at h
 ·split at h
  ·rename_i e
   cases h
   subst e
   unfold kindOf at hk
   split at hk
   ·rename_i k'' hu
    rw [run_equalIn_int w d t _ k'' _ _ hu]
    rfl
   ·cases hk
   ·cases hk
   ·cases hk
  ·cases h
 ·cases h
  unfold kindOf at hk
  split at hk
  ·cases hk
  ·rename_i hu
   exact run_equalIn_bool' w d t _ _ hu
  ·cases hk
  ·cases hk
 ·cases h
  unfold kindOf at hk
  split at hk
  ·cases hk
  ·cases hk
  ·rename_i hu
   rw [run_equalIn_string w d t _ _ hu,ba_beq]
  ·cases hk
 ·cases h
theorem eqFs_sound {xs ys:List PL}{us vs:List Value}(h1:RepPs hb η γ w xs us)(h2:RepPs hb η γ w ys vs){d:Nat}:∀{fs:List Go.Field} {l:List (Nat×Nat)} {b:Bool},eqFs P fs=some l→eqCells l xs ys=some b→(Op.eqFields (d+1) us.toArray vs.toArray fs).run P w=.ok b w
 |[],l,b,hl,hc=>by
  simp only [eqFs,Option.some.injEq]at hl
  subst hl
  simp only [eqCells,Option.some.injEq]at hc
  subst hc
  rfl
 |f::r,l,b,hl,hc=>by
  unfold eqFs at hl
  split at hl
  ·rename_i hcond
   obtain⟨hn,hrow⟩:=hcond
   split at hl
   ·rename_i k l' hk hl'
    cases hl
    unfold eqCells at hc
    split at hc
    ·rename_i u v hu hv
     split at hc
     ·rename_i p q hp hq
      cases hc
      have ih:=eqFs_sound h1 h2 (d:=d) hl' hq
      have e1:partV P f.type xs f.offset=some (one (.sc u)):=by unfold partV;rw [hrow,hu];rfl
      have e2:partV P f.type ys f.offset=some (one (.sc v)):=by unfold partV;rw [hrow,hv];rfl
      obtain⟨u',g1,g2⟩:=partV_sound (P:=P) h1 e1
      obtain⟨v',g3,g4⟩:=partV_sound (P:=P) h2 e2
      obtain⟨rfl,_⟩:=rep_sc g2
      obtain⟨rfl,_⟩:=rep_sc g4
      have g5:=eqVal_sound (P:=P) (w:=w) (d:=d) hk hp
      simp only [Op.eqFields,if_pos hn,Sem.run_bind,g1,g3,g5,Result.andThen_ok,Sem.run_ite,Sem.run_pure,ih]
      cases p<;>simp
     ·cases hc
    ·cases hc
   ·cases hl
  ·cases hl
theorem binE_sound {op:BinOp}{t:TypeId}(x y:Operand){a b v:PV}{p q:Value}(hx:RepV hb η γ w a p)(hy:RepV hb η γ w b q)(h:binE P op t a b=some v):∃u,(do eqGuard op t x y p q;binOp op t p q:Sem Value).run P w=.ok u w∧RepV hb η γ w v u:=by
 unfold binE at h
 split at h
 ·rename_i xs ys
  split at h
  ·rename_i l hl
   split at h
   ·rename_i r hr
    obtain⟨us,rfl,h1⟩:=hx
    obtain⟨vs,rfl,h2⟩:=hy
    unfold eqTab at hl
    split at hl
    ·rename_i fs hu
     split at hl
     ·rename_i hc
      have hf:P.fieldsOf t=fs:=by unfold Program.fieldsOf;rw [hu]
      have he:(Op.equalIn 10000 t (.agg us.toArray) (.agg vs.toArray)).run P w=.ok r w:=by
       rw [run_equalIn_agg w 9999 t _ _ (by rw [hf];exact hu) hc.1,hf]
       exact eqFs_sound h1 h2 (d:=9998) hl hr
      have hg:=run_eqGuard_agg (P:=P) w op t x y us.toArray vs.toArray hc.2
      unfold eqOp at h
      split at h
      ·cases h
       refine⟨.bool r,?_,rep_mk rfl⟩
       rw [Sem.run_bind,hg]
       simp only [Result.andThen_ok,run_eql_struct,he]
      ·cases h
       refine⟨.bool !r,?_,rep_mk rfl⟩
       rw [Sem.run_bind,hg]
       simp only [Result.andThen_ok,run_neq_struct,he]
      ·cases h
     ·cases hl
    ·cases hl
   ·cases h
  ·cases h
 ·obtain⟨r,h1,rfl⟩:∃r,pbin P op t p q=some r∧v=one (.sc r):=by
   unfold scal at h
   split at h
   ·obtain⟨rfl,-⟩:=rep_sc hx
    obtain⟨rfl,-⟩:=rep_sc hy
    obtain⟨r,h1,rfl⟩:=Option.map_eq_some_iff.1 h
    exact⟨r,h1,rfl⟩
   ·cases h
  exact⟨r,pbin_sound x y w h1,rep_mk (pbin_one h1)⟩
end
end PEc
section PF
def optE (st:St):Option Operand→Option PV
 |none=>none
 |some x=>some (ev st x)
def pickE (c x y:PV):Option PV:=
 match c with
 |.comp false [.sc (.bool b)]=>some (if b then x else y)
 |_=>none
def lenO (P:Program)(st:St)(t:TypeId)(x:PV):Option Int:=
 match x with
 |.comp false [.sc (.string s)]=>if isStrT P t then some s.size else none
 |x=>match elT P t with
  |some _=>lenE st x
  |none=>none
def valO (P:Program)(st:St)(o:Op):Option PV:=
 match o with
 |.move x=>some (ev st x)
 |.assign x=>some (ev st x)
 |.pick c x y=>pickE (ev st c) (ev st x) (ev st y)
 |.load t x=>loadE P st t (ev st x)
 |.nilCheck x=>nilE (ev st x)
 |.binOp op t x y _=>binE P op t (ev st x) (ev st y)
 |.unOp op _ x=>scal (fun a _=>pun op a) (ev st x) (ev st x)
 |.convert src dst x=>convE P st src dst (ev st x)
 |.slice t x lo hi none=>sliceE P st t (ev st x) (optE st lo) (optE st hi)
 |.fieldAddr s x f=>fieldAddrE P s f (ev st x)
 |.field s x f=>fieldE P s f (ev st x)
 |.indexAddr t x i=>indexAddrE P st t (ev st x) (ev st i)
 |.index t x i=>indexE P t (ev st x) (ev st i)
 |.extract x i=>tupE i (ev st x)
 |.build t parts=>buildE P st t parts.toList
 |.makeFunc (.func f) first caps=>if first.size=0 then(capsE (caps.toList.map (ev st))).map fun ns=>one (.fn f ns)else none
 |.call c=>match c.callee,c.args.toList with
  |.builtin .len,[x]=>match c.argTypes.toList with
   |[t]=>(lenO P st t (ev st x)).map fun n=>one (.sc (.int .i64 n))
   |_=>none
  |.builtin .min,[x,y]=>minE false (ev st x) (ev st y)
  |.builtin .max,[x,y]=>minE true (ev st x) (ev st y)
  |_,_=>none
 |_=>none
section
variable {P:Program}{γ0:Nat→Option Nat}{w0:World}{N:Nat}{st:St}{a:Act}{w:World}{η:Nat→Value}{γ:Nat→Option Nat}
theorem optE_sound (h:Inv γ0 w0 N st a w η γ)(x:Option Operand):(optE st x=none∧x.map a.eval=none)∨∃v u,optE st x=some v∧x.map a.eval=some u∧RepV (getB st) η γ w v u:=by
 cases x with
 |none=>exact .inl ⟨rfl,rfl⟩
 |some x=>exact .inr ⟨_,_,rfl,rfl,ev_sound h x⟩
theorem sliceE_sound (h:Inv γ0 w0 N st a w η γ){t:TypeId}{x v:PV}{u:Value}{lo hi:Option Operand}(hx:RepV (getB st) η γ w x u)(hv:sliceE P st t x (optE st lo) (optE st hi)=some v):
  ∃u',(Instr.sliceAt t u (lo.map a.eval) (hi.map a.eval) none).run P w=.ok u' w∧RepV (getB st) η γ w v u':=by
 unfold sliceE at hv
 split at hv
 ·rename_i s
  obtain⟨rfl,-⟩:=rep_sc hx
  split at hv
  ·rename_i ht
   split at hv
   ·rename_i l r hl hr
    split at hv
    ·rename_i hc
     cases hv
     have h1:=boundE_sound (optE_sound h lo) hl
     have h2:=boundE_sound (optE_sound h hi) hr
     have hb:=run_bounds (P:=P) (w:=w) false s.size s.size (lo.map a.eval) (hi.map a.eval) l.toNat r.toNat
      (by rcases h1 with⟨h1,rfl⟩|⟨k,h1⟩;exact .inl ⟨h1,rfl⟩;exact .inr ⟨k,by rw [h1,Int.toNat_of_nonneg hc.1]⟩)
      (by rcases h2 with⟨h2,rfl⟩|⟨k,h2⟩;exact .inl ⟨h2,by omega⟩;exact .inr ⟨k,by rw [h2,Int.toNat_of_nonneg (by omega)]⟩) (by omega) (by omega)
     have hu:=isStr_sound ht
     refine⟨.string (s.extract l.toNat r.toNat),?_,rep_mk rfl⟩
     simp [Instr.sliceAt,run_underlying hu,Instr.slice,hb]
    ·cases hv
   ·cases hv
  ·cases hv
 ·rename_i pl hstr
  split at hv
  ·rename_i e he
   split at hv
   ·rename_i s n hs hn
    split at hv
    ·rename_i l r hl hr
     split at hv
     ·rename_i hc
      obtain⟨pl',h3,rfl⟩:=Option.map_eq_some_iff.1 hv
      have h1:=boundE_sound (optE_sound h lo) hl
      have h2:=boundE_sound (optE_sound h hi) hr
      obtain⟨u',h4,h5⟩:=subE_sound h he hs (RepV.one_iff.1 hx) (fun s e=>hstr s e) hn (lo:=lo.map a.eval) (hi:=hi.map a.eval) (l:=l.toNat) (r:=r.toNat)
       (by rcases h1 with⟨h1,rfl⟩|⟨k,h1⟩;exact .inl ⟨h1,rfl⟩;exact .inr ⟨k,by rw [h1,Int.toNat_of_nonneg hc.1]⟩)
       (by rcases h2 with⟨h2,rfl⟩|⟨k,h2⟩;exact .inl ⟨h2,by omega⟩;exact .inr ⟨k,by rw [h2,Int.toNat_of_nonneg (by omega)]⟩) (by omega) (by omega) h3
      exact⟨u',h4,RepV.one_iff.2 h5⟩
     ·cases hv
    ·cases hv
   ·cases hv
  ·cases hv
 ·cases hv
theorem pickE_sound {hb:Nat→Option Blk}{c x y v:PV}{p q r:Value}(hc:RepV hb η γ w c p)(hx:RepV hb η γ w x q)(hy:RepV hb η γ w y r)(h:pickE c x y=some v):
  ∃b,p=.bool b∧RepV hb η γ w v (if b then q else r):=by
 unfold pickE at h
 split at h
 ·rename_i b
  cases h
  obtain⟨rfl,-⟩:=rep_sc hc
  exact⟨b,rfl,by cases b<;>assumption⟩
 ·cases h
theorem bytesE_sound:∀{rows:List (List Leaf)} {bs:List UInt8},bytesE rows=some bs→bs.length=rows.length∧∀(i:Nat) (row:List Leaf),rows[i]?=some row→∃n,row=[.sc (.int .u8 n)]∧bs[i]?=some (UInt8.ofNat n.toNat)
 |[],bs,h=>by
  simp only [bytesE,List.mapM_nil]at h
  cases h
  exact⟨rfl,fun i row hi=>by simp at hi⟩
 |r::rs,bs,h=>by
  simp only [bytesE,List.mapM_cons,Option.bind_eq_bind,Option.bind_eq_some_iff]at h
  obtain⟨b,h1,bs',h2,h3⟩:=h
  cases h3
  obtain⟨h4,h5⟩:=bytesE_sound (rows:=rs) (bs:=bs') h2
  refine⟨by simp [h4],fun i row hi=>?_⟩
  cases i with
  |zero=>
   simp only [List.getElem?_cons_zero,Option.some.injEq]at hi
   subst hi
   split at h1
   ·rename_i n
    cases h1
    exact⟨n,rfl,rfl⟩
   ·cases h1
  |succ i=>
   obtain⟨n,h6,h7⟩:=h5 i row (by simpa using hi)
   exact⟨n,h6,by simpa using h7⟩
theorem run_bytes_at {src e dst b off cap:Nat}{bs:List UInt8}{rows:List (List Leaf)}(hs:elT P src=some e)(he:intT P e=some .u8)(hd:isStrT P dst=true)(hb:bytesE rows=some bs)
  (hc:∀(i:Nat) (n:Int),rows[i]?=some [.sc (.int .u8 n)]→w.cell? ⟨b,off+i,none⟩=some (.int .u8 n)):
  (convert src dst (.slice (some ⟨b,off,none⟩) rows.length cap)).run P w=.ok (.string ⟨bs.toArray⟩) w:=by
 obtain⟨hl,hg⟩:=bytesE_sound hb
 have he':P.underlying e=some (.int .u8):=by
  unfold intT at he
  split at he
  ·rename_i hu;cases he;exact hu
  ·cases he
 let xs:List Int:=rows.map fun row=>match row with|[.sc (.int .u8 n)]=>n|_=>0
 have:=run_convert_bytes_arg (P:=P) w src e (elT_sound hs) he' b off rows.length cap xs (by simp [xs]) (fun i hi=>by
  obtain⟨n,h1,h2⟩:=hg i _ (List.getElem?_eq_getElem hi)
  have h3:rows[i]?=some [.sc (.int .u8 n)]:=by rw [List.getElem?_eq_getElem hi,h1]
  rw [hc i n h3]
  simp [xs,List.getD,List.getElem?_map,h3]) dst (isStr_sound hd)
 rw [this]
 congr 2
 unfold strOfNums
 congr 2
 apply List.ext_getElem?
 intro i
 by_cases hi:i<rows.length
 ·obtain⟨n,h1,h2⟩:=hg i _ (List.getElem?_eq_getElem hi)
  have h3:rows[i]?=some [.sc (.int .u8 n)]:=by rw [List.getElem?_eq_getElem hi,h1]
  rw [h2]
  simp [xs,List.getElem?_map,h3]
 ·rw [List.getElem?_eq_none (by simp [xs];omega),List.getElem?_eq_none (by omega)]
theorem convE_sound (h:Inv γ0 w0 N st a w η γ){src dst:TypeId}{x v:PV}{u:Value}(hx:RepV (getB st) η γ w x u)(hv:convE P st src dst x=some v):
  ∃u',(convert src dst u).run P w=.ok u' w∧RepV (getB st) η γ w v u':=by
 unfold convE at hv
 split at hv
 ·rename_i k n
  obtain⟨rfl,-⟩:=rep_sc hx
  split at hv
  ·rename_i d k' hs hd
   obtain⟨v',h1,rfl⟩:=Option.map_eq_some_iff.1 hv
   rw [ar_eq h1]
   unfold intT at hd
   split at hd
   ·rename_i hu
    cases hd
    have hk:P.intKind dst=k':=by simp [Program.intKind,hu]
    refine⟨_,by rw [run_convert_int w src dst k n (by rw [hs];rfl) (by rw [hk];exact hu),hk],rep_mk rfl⟩
   ·cases hd
  ·cases hv
 ·rename_i l hni
  clear hni
  replace hx:=RepV.one_iff.1 hx
  split at hv
  ·rename_i e he
   split at hv
   ·rename_i hi
    split at hv
    ·rename_i hd
     obtain⟨hd,hsz⟩:=hd
     have he':P.underlying e=some (.int .u8):=by
      unfold intT at hi
      split at hi
      ·rename_i hu;cases hi;exact hu
      ·cases hi
     have hnil:∀l c,(convert src dst (.slice none l c)).run P w=.ok (.string .empty) w:=fun l c=>run_convert_bytes_nil w src e (elT_sound he) he' l c dst (isStr_sound hd)
     split at hv
     ·cases hv
      cases hx
      exact⟨_,hnil 0 0,rep_mk rfl⟩
     ·rename_i rows
      obtain⟨bs,h1,rfl⟩:=Option.map_eq_some_iff.1 hv
      cases hx with
      | @emp A c hc=>
       simp only [bytesE,List.mapM_nil]at h1
       cases h1
       cases A with
       |none=>exact⟨_,hnil 0 c,rep_mk rfl⟩
       |some A=>
        refine⟨.string ⟨#[]⟩,?_,rep_mk rfl⟩
        simp [convert,run_underlying (elT_sound he),run_underlying (isStr_sound hd),run_underlying he',Conv.bytesToString,loadCells,loadCellsFrom]
        rfl
      | @sl _ b off s cap val g1 g2 g3 g4 g5 g6 g7=>
       refine⟨_,run_bytes_at he hi hd h1 (fun i n hrow=>?_),rep_mk rfl⟩
       have hs1:s=1:=(g5 _ (List.mem_of_getElem? hrow)).symm
       subst hs1
       have e1:=g6 i _ 0 _ hrow rfl
       have e2:=g7 i _ 0 _ hrow rfl
       simp only [Nat.mul_one,Nat.add_zero]at e1
       rw [e1]
       generalize val i 0=q at e2
       cases e2
       rfl
     ·rename_i m
      split at hv
      ·rename_i fl e' s rows hbx
       obtain⟨bs,h1,rfl⟩:=Option.map_eq_some_iff.1 hv
       obtain⟨rfl,_⟩:=hx
       have hB:=h.blks m _ hbx
       obtain⟨xs,⟨hxl,ho⟩,hr,hs',_⟩:=hB
       rcases ho with⟨ho,hz⟩|⟨g,cap,cur,hg,_⟩
       ·have:rows=[]:=List.length_eq_zero_iff.1 hz
        subst this
        simp only [bytesE,List.mapM_nil]at h1
        cases h1
        rw [ho]
        exact⟨_,hnil 0 0,rep_mk rfl⟩
       ·rw [hg]
        refine⟨_,run_bytes_at he hi hd h1 (fun i n hrow=>?_),rep_mk rfl⟩
        obtain⟨us,h4,h5,h6⟩:=arr_row (h.blks m _ hbx) hg hrow
        obtain⟨u,h7,h8⟩:=h4.2 0 _ rfl
        have:=h5 0 u h7
        simp only [List.length_cons,List.length_nil]at h6
        subst h6
        cases h8
        simpa using this
      ·cases hv
     ·cases hv
    ·cases hv
   ·cases hv
  ·cases hv
 ·cases hv
end
end PF
section PG
section
variable {P:Program}{γ0:Nat→Option Nat}{w0:World}{N:Nat}{st:St}{a:Act}{w:World}{η:Nat→Value}{γ:Nat→Option Nat}
theorem run_v {s:Sem Value}{u:Value}(h:s.run P w=.ok u w):(do pure (.value (←s)):Sem Next).run P w=.ok (.value u) w:=by simp [h]
theorem scal_sound {hb:Nat→Option Blk}{f:Value→Value→Option Value}{x y v:PV}{p q:Value}(hx:RepV hb η γ w x p)(hy:RepV hb η γ w y q)(h:scal f x y=some v):∃r,f p q=some r∧v=one (.sc r):=by
 unfold scal at h
 split at h
 ·obtain⟨rfl,-⟩:=rep_sc hx
  obtain⟨rfl,-⟩:=rep_sc hy
  obtain⟨r,h1,rfl⟩:=Option.map_eq_some_iff.1 h
  exact⟨r,h1,rfl⟩
 ·cases h
theorem pun_one {op:UnOp}{x v:Value}(h:pun op x=some v):v.oneCell'=true:=by
 cases x with
 |bool b=>cases op<;>simp only [pun]at h<;>first|(cases h;rfl)|cases h
 |int k n=>cases op<;>simp only [pun]at h<;>first|exact ar_one h|(cases h;rfl)|cases h
 |_=>simp [pun]at h
theorem nilE_sound {hb:Nat→Option Blk}{x v:PV}{p:Value}(hx:RepV hb η γ w x p)(h:nilE x=some v):v=x∧∃A,p=.pointer (some A):=by
 unfold nilE at h
 split at h
 ·cases h;obtain⟨_,b,_,_,rfl⟩:=RepV.one_iff.1 hx;exact⟨rfl,_,rfl⟩
 ·cases h;obtain⟨_,_,_,_,b,c,_,_,_,rfl⟩:=RepV.one_iff.1 hx;exact⟨rfl,_,rfl⟩
 ·cases h;obtain⟨b,o,us,_,_,rfl,_⟩:=RepV.one_iff.1 hx;exact⟨rfl,_,rfl⟩
 ·cases h
theorem tupE_sound {hb:Nat→Option Blk}{x v:PV}{p:Value}{i:Nat}(hx:RepV hb η γ w x p)(h:tupE i x=some v):∃u,(Instr.extract p i).run P w=.ok u w∧RepV hb η γ w v u:=by
 unfold tupE at h
 split at h
 ·rename_i vs
  obtain⟨⟨g,ls⟩,h1,rfl⟩:=Option.map_eq_some_iff.1 h
  obtain⟨us,rfl,h2,h3⟩:=hx
  obtain⟨u,h4,h5⟩:=h3 i g ls h1
  exact⟨u,by simp [Instr.extract,h4],h5⟩
 ·cases h
theorem capsE_sound (h:Inv γ0 w0 N st a w η γ):∀(xs:List Operand) (ns:List Nat),capsE (xs.map (ev st))=some ns→xs.map a.eval=ns.map η∧∀n∈ns,∃ls b,getB st n=some (.box ls)∧η n=.pointer (some ⟨b,0,none⟩)
 |[],ns,hc=>by
  simp only [List.map_nil,capsE,Option.some.injEq]at hc
  subst hc
  exact⟨rfl,fun n hn=>absurd hn (by simp)⟩
 |x::xs,ns,hc=>by
  rw [List.map_cons]at hc
  have hx:=ev_sound h x
  generalize ev st x=v at hx hc
  unfold capsE at hc
  split at hc
  ·rename_i h';cases h'
  ·rename_i n r h'
   injection h' with e1 e2
   subst e1;subst e2
   obtain⟨ns',h1,rfl⟩:=Option.map_eq_some_iff.1 hc
   obtain⟨h2,h3⟩:=capsE_sound h xs ns' h1
   obtain⟨ls,b,h4,h5,h6⟩:=RepV.one_iff.1 hx
   refine⟨by rw [List.map_cons,List.map_cons,h2,h5,h6],fun m hm=>?_⟩
   rcases List.mem_cons.1 hm with rfl|hm
   ·exact⟨ls,b,h4,h5⟩
   ·exact h3 m hm
  ·cases hc
theorem minE_sound {hb:Nat→Option Blk}{big:Bool}{x y v:PV}{p q:Value}(hx:RepV hb η γ w x p)(hy:RepV hb η γ w y q)(h:minE big x y=some v):∃k k' n m,p=.int k n∧q=.int k' m∧v=one (.sc (.int k (if big then(if m>n then m else n)else(if m<n then m else n)))):=by
 unfold minE at h
 split at h
 ·cases h
  obtain⟨rfl,-⟩:=rep_sc hx
  obtain⟨rfl,-⟩:=rep_sc hy
  exact⟨_,_,_,_,rfl,rfl,rfl⟩
 ·cases h
theorem lenE_one {x:PV}{n:Int}(h:lenE st x=some n):∃l,x=one l:=by
 cases x with
 |tup vs=>simp [lenE]at h
 |comp g ls=>
  cases g with
  |true=>simp [lenE]at h
  |false=>
   cases ls with
   |nil=>simp [lenE]at h
   |cons l r=>
    cases r with
    |nil=>exact⟨l,rfl⟩
    |cons _ _=>simp [lenE]at h
theorem run_len (h:Inv γ0 w0 N st a w η γ){t ty:TypeId}{x:PV}{u:Value}{n:Int}(hx:RepV (getB st) η γ w x u)(hn:lenO P st t x=some n):(Builtin.len_ #[t] ty #[u]).run P w=.ok (.int .i64 n) w:=by
 unfold lenO at hn
 split at hn
 ·rename_i s
  obtain⟨rfl,-⟩:=rep_sc hx
  split at hn
  ·rename_i ht
   cases hn
   simp [Builtin.len_,run_underlying (isStr_sound ht),goInt]
  ·cases hn
 ·rename_i hstr
  split at hn
  ·rename_i e he
   obtain⟨l,hxl⟩:=lenE_one hn
   subst hxl
   obtain⟨A,len,cap,rfl,rfl,_⟩:=lenE_sound h (RepV.one_iff.1 hx) (fun s e=>hstr s (by rw [e])) hn
   simp [Builtin.len_,run_underlying (elT_sound he),goInt]
  ·cases hn
theorem valO_sound (h:Inv γ0 w0 N st a w η γ){o:Oper}{v:PV}(hv:valO P st o.op=some v):∃u,(execOp a.eval o).run P w=.ok (.value u) w∧RepV (getB st) η γ w v u:=by
 obtain⟨dst,op,ty,pos,after,guard⟩:=o
 cases op
 case move x=>
  cases hv
  exact⟨_,rfl,ev_sound h x⟩
 case assign x=>
  cases hv
  exact⟨_,rfl,ev_sound h x⟩
 case pick c x y=>
  obtain⟨b,h1,h2⟩:=pickE_sound (ev_sound h c) (ev_sound h x) (ev_sound h y) hv
  exact⟨_,by simp [execOp,h1,asBool],h2⟩
 case load t x=>
  obtain⟨u,h1,h2⟩:=loadE_sound h (P:=P) (ev_sound h x) hv
  exact⟨u,run_v h1,h2⟩
 case nilCheck x=>
  obtain⟨rfl,A,h2⟩:=nilE_sound (ev_sound h x) hv
  refine⟨a.eval x,?_,ev_sound h x⟩
  simp [execOp,h2]
 case binOp op t x y yt=>
  obtain⟨u,h1,h2⟩:=binE_sound (P:=P) x y (ev_sound h x) (ev_sound h y) hv
  exact⟨u,run_v h1,h2⟩
 case unOp op t x=>
  obtain⟨r,h1,rfl⟩:=scal_sound (ev_sound h x) (ev_sound h x) hv
  exact⟨r,run_v (pun_sound w h1),rep_mk (pun_one h1)⟩
 case convert src dst' x=>
  obtain⟨u,h1,h2⟩:=convE_sound h (P:=P) (ev_sound h x) hv
  exact⟨u,run_v h1,h2⟩
 case slice t x lo hi mx=>
  cases mx with
  |some m=>cases hv
  |none=>
   obtain⟨u,h1,h2⟩:=sliceE_sound h (P:=P) (ev_sound h x) hv
   exact⟨u,run_v h1,h2⟩
 case fieldAddr s x f=>
  obtain⟨u,h1,h2⟩:=fieldAddrE_sound (P:=P) (ev_sound h x) hv
  exact⟨u,run_v h1,h2⟩
 case field s x f=>
  obtain⟨u,h1,h2⟩:=fieldE_sound (P:=P) (ev_sound h x) hv
  exact⟨u,run_v h1,h2⟩
 case indexAddr t x i=>
  obtain⟨u,h1,h2⟩:=indexAddrE_sound h (P:=P) (ev_sound h x) (ev_sound h i) hv
  exact⟨u,run_v h1,h2⟩
 case index t x i=>
  obtain⟨u,h1,h2⟩:=indexE_sound (P:=P) (ev_sound h x) (ev_sound h i) hv
  exact⟨u,run_v h1,h2⟩
 case extract x i=>
  obtain⟨u,h1,h2⟩:=tupE_sound (P:=P) (ev_sound h x) hv
  exact⟨u,run_v h1,h2⟩
 case build t parts=>
  obtain⟨u,h1,h2⟩:=buildE_sound h (P:=P) (t:=t) (parts:=parts) hv
  exact⟨u,run_v h1,h2⟩
 case makeFunc fn first caps=>
  cases fn with
  |func f=>
   simp only [valO]at hv
   split at hv
   ·rename_i hf
    obtain⟨ns,h1,rfl⟩:=Option.map_eq_some_iff.1 hv
    obtain⟨h2,h3⟩:=capsE_sound h _ _ h1
    have hf':first= #[]:=by simpa using hf
    subst hf'
    refine⟨.func (.func f) #[] (caps.map a.eval),by simp [execOp,Instr.makeFunc],RepV.one_iff.2 ⟨?_,h3⟩⟩
    rw [←h2]
    obtain⟨caps⟩:=caps
    simp
   ·cases hv
  |_=>cases hv
 case call c=>
  obtain⟨callee,args,ats⟩:=c
  simp only [valO]at hv
  split at hv
  ·rename_i _ _ x har
   obtain⟨l⟩:=args
   simp only at har
   subst har
   split at hv
   ·rename_i _ t hat
    obtain⟨la⟩:=ats
    simp only at hat
    subst hat
    obtain⟨n,h1,rfl⟩:=Option.map_eq_some_iff.1 hv
    exact⟨.int .i64 n,by simp [execOp,resolve,invoke,builtin,run_len h (ev_sound h x) h1],rep_mk rfl⟩
   ·cases hv
  ·rename_i _ _ x y har
   obtain⟨l⟩:=args
   simp only at har
   subst har
   obtain⟨k,k',n,m,h1,h2,rfl⟩:=minE_sound (ev_sound h x) (ev_sound h y) hv
   exact⟨_,by simp [execOp,resolve,invoke,builtin,h1,h2,Builtin.min_,Builtin.min2],rep_mk rfl⟩
  ·rename_i _ _ x y har
   obtain⟨l⟩:=args
   simp only at har
   subst har
   obtain⟨k,k',n,m,h1,h2,rfl⟩:=minE_sound (ev_sound h x) (ev_sound h y) hv
   exact⟨_,by simp [execOp,resolve,invoke,builtin,h1,h2,Builtin.max_,Builtin.max2],rep_mk rfl⟩
  ·cases hv
 all_goals cases hv
end
end PG
theorem dcT {p:Prop}[Decidable p](h:p):decide p=true:=decide_eq_true h
theorem dcF {p:Prop}[Decidable p](h:¬p):decide p=false:=decide_eq_false h
theorem oms {α β:Type}{f:α→β}{x:Option α}{b:β}(h:x.map f=some b):∃a,x=some a∧f a=b:=Option.map_eq_some_iff.1 h
theorem gsE {α:Type}{l:List α}{i:Nat}(h:i<l.length):l[i]?=some l[i]:=List.getElem?_eq_getElem h
theorem gsS {α:Type}{l:List α}{i:Nat}{a:α}(h:l[i]?=some a):∃h:i<l.length,l[i]=a:=List.getElem?_eq_some_iff.1 h
theorem bsA {a b:ByteArray}:(a++b).size=a.size+b.size:=ByteArray.size_append
end Go.Proofs.YtfgkfcfplodaoaaGreatDoor
