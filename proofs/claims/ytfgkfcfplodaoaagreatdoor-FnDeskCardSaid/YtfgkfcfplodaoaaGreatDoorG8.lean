/-
  Put together out of 2 texts.
-/
import Derived.Test.YtfgkfcfplodaoaaGreatDoorG7
set_option linter.unusedSimpArgs false
set_option linter.unusedVariables false
set_option maxRecDepth 100000
namespace Go.Proofs.YtfgkfcfplodaoaaGreatDoor
open Go Go.RowKit
section
def storeL (P:Program)(st:St)(t:TypeId)(x y:Operand):Option (Nat×Blk):=
 match szT P t,ev st y with
 |some k,.comp _ ls=>if ls.length=k∧ls.all PL.live=true then
   match ev st x with
   |.comp false [.ptr n off]=>match getB st n with
    |some (.box bs)=>if off+k≤bs.length then some (n,.box (bs.take off++ls++bs.drop (off+k)))else none
    |_=>none
   |.comp false [.pel n i off]=>if noRef ls=true then match leafsO st ls,getB st n with
    |some xs,some (.arr fl e s rows)=>match rows[i]? with
     |some row=>if off+k≤row.length∧fl.nst=false then some (n,.arr (fl.and (xs.all Leaf.isSc)) e s (rows.set i (row.take off++xs++row.drop (off+k))))else none
     |none=>none
    |_,_=>none else none
   |_=>none
  else none
 |_,_=>none
def lateOk (l:List Oper)(p:Nat)(As:List (List Nat))(late:List Nat):Bool:=
 (late.all fun i=>decide (i<p)&&match l[i]? with
  |some ⟨some _,.move _,_,_,_,none⟩=>true
  |some ⟨some _,.extract _ _,_,_,_,none⟩=>true
  |_=>false)&&(List.range p).all fun j=>late.contains j||(ancO As p).contains j
section
variable {P:Program}{Γ:Models}{γ0:Nat→Option Nat}{w0:World}{N:Nat}{Q:Exit→Act→World→Prop}{l:List Oper}{p:Nat}{As:List (List Nat)}{Es:List (List Entry)}{st0 st st':St}{a:Act}{w:World}
theorem storeL_E {t:TypeId}{x y:Operand}{n:Nat}{b:Blk}(h:storeL P st t x y=some (n,b)):storeE P st t x y=some (.blk n b::st):=by
 unfold storeL at h
 unfold storeE
 split at h
 ·rename_i k g ls hk hy
  simp only [hk,hy]
  split at h
  ·rename_i hc
   rw [if_pos hc]
   split at h
   ·rename_i m off hx
    simp only [hx]
    split at h
    ·rename_i bs hb
     simp only [hb]
     split at h
     ·rename_i ho
      cases h
      rw [if_pos ho]
     ·cases h
    ·cases h
   ·rename_i m i off hx
    split at h
    ·rename_i hnr
     simp only [hx,frz_id hnr]
     split at h
     ·rename_i xs fl e s rows hxs hb
      simp only [hxs,hb]
      split at h
      ·rename_i row hrow
       simp only [hrow]
       split at h
       ·rename_i ho
        cases h
        have hasn:asN ls (some (.arr fl e s rows))=false:=by
         have h1:fl.isNd=false:=by
          have:=ho.2
          cases fl<;>first|rfl|cases this
         simp [asN,h1,hnr]
        rw [if_neg (by rw [hasn];simp),if_pos ho]
       ·cases h
      ·cases h
     ·cases h
    ·cases h
   ·cases h
  ·cases h
 ·cases h
theorem storeL_mono (hB:LeB st st'){t:TypeId}{x y:Operand}{q:Nat×Blk}(hx:ev st x=ev st' x)(hy:ev st y=ev st' y)(h:storeL P st t x y=some q):storeL P st' t x y=some q:=by
 unfold storeL at h⊢
 rw [hx,hy]at h
 split at h
 ·rename_i k g ls hk hy'
  try simp only [hk,hy']
  split at h
  ·rename_i hc
   rw [if_pos hc]
   split at h
   ·rename_i m off hx'
    try simp only [hx']
    split at h
    ·rename_i bs hb
     simp only [hB _ _ hb]
     exact h
    ·cases h
   ·rename_i m i off hx'
    try simp only [hx']
    split at h
    ·rename_i hnr
     rw [if_pos hnr]
     split at h
     ·rename_i xs fl e s rows hxs hb
      simp only [leafsO_mono hB hxs,hB _ _ hb]
      exact h
     ·cases h
    ·cases h
   ·cases h
  ·cases h
 ·cases h
def lateOp:Op→Bool
 |.move _=>true
 |.extract _ _=>true
 |_=>false
theorem late_op {late:List Nat}(h:lateOk l p As late=true){i:Nat}(hi:i∈late):i<p∧∃d op ty pos after,l[i]?=some ⟨some d,op,ty,pos,after,none⟩∧lateOp op=true:=by
 unfold lateOk at h
 rw [Bool.and_eq_true]at h
 have:=List.all_eq_true.1 h.1 i hi
 rw [Bool.and_eq_true]at this
 obtain⟨h1,h2⟩:=this
 refine⟨by simpa using h1,?_⟩
 split at h2
 ·rename_i d x ty pos after hl
  exact⟨d,_,ty,pos,after,hl,rfl⟩
 ·rename_i d x k ty pos after hl
  exact⟨d,_,ty,pos,after,hl,rfl⟩
 ·cases h2
theorem late_ent {op:Op}(h:lateOp op=true){d:Nat}{E:List Entry}{n:Nat}{b:Blk}(he:entO P Γ st d op=some E):entO P Γ (.blk n b::st) d op=some E∧∃v,E=[.slot d v]:=by
 have hev:∀z,ev (.blk n b::st) z=ev st z:=fun z=>by cases z<;>rfl
 cases op with
 |move z=>
  have h1:some [Entry.slot d (ev st z)]=some E:=he
  have h2:entO P Γ (.blk n b::st) d (.move z)=some [Entry.slot d (ev (.blk n b::st) z)]:=rfl
  rw [h2,hev]
  exact⟨h1,_,by cases h1;rfl⟩
 |extract z k=>
  have h1:valL d (tupE k (ev st z))=some E:=he
  have h2:entO P Γ (.blk n b::st) d (.extract z k)=valL d (tupE k (ev (.blk n b::st) z)):=rfl
  rw [h2,hev]
  refine⟨h1,?_⟩
  cases hv:tupE k (ev st z)with
  |none=>rw [hv]at h1;cases h1
  |some v=>rw [hv]at h1;cases h1;exact⟨v,rfl⟩
 |_=>cases h
theorem late_anc {late:List Nat}(h:lateOk l p As late=true){j:Nat}(hj:j<p)(hn:j∉late):j∈ancO As p:=by
 unfold lateOk at h
 rw [Bool.and_eq_true]at h
 have:=List.all_eq_true.1 h.2 j (List.mem_range.2 hj)
 simp only [Bool.or_eq_true]at this
 rcases this with h1|h1
 ·exact absurd (by simpa using h1) hn
 ·simpa using h1
theorem look_pick (hpl:p<l.length)(h:chk l (p+1) As=true)(hS:Steps' P Γ N l p As st0 Es){listed:Array Bool}(hc:Closed l listed){i:Nat}{o:Oper}(h1:l[i]?=some o)(hip:i≤p)(h2:L listed i=false)(h3:∀k∈dirO o,L listed k=true):
  ∀t∈o.looksAt l.toArray,getS (pickE' Es 0 (inL (ancO As i)) st0) t=getS (pickE' Es 0 (L listed) st0) t:=fun t ht=>pick_congr hS.dist fun j E' hj hh=>by
 have hanc:=closed_anc h hc i o h1 h3
 have hlt:=(gsS h1).1
 have hjl:=(gsS hj).1
 rw [hS.len]at hjl
 have hoj:l[j]?=some l[j]:=gsE (by omega)
 obtain⟨d',hd',_,hod',_⟩:=hS.step j _ E' hoj hj
 have htd:=onlyS_has hod' hh
 have hb:(l[j]?).bind (·.dst)=some t:=by rw [hoj,htd];exact hd'
 rcases chk_read h h1 (by omega) t ht j (by omega) hb with h5|h5
 ·rw [hanc j h5]
  unfold inL
  simpa using h5
 ·have hnj:L listed j=false:=by
   cases hL:L listed j with
   |false=>rfl
   |true=>
    have:=closed_anc h hc j _ hoj (hc j _ hoj hL) i h5
    rw [h2]at this
    cases this
  rw [hnj]
  unfold inL
  cases hq:(ancO As i).contains j with
  |false=>rfl
  |true=>
   have:=(chk_anc h h1 j (by simpa using hq)).1
   have h7:=(chk_anc h hoj i h5).1
   omega
theorem pick_add (hS:Steps' P Γ N l p As st0 Es){S S':Nat→Bool}{i:Nat}{E:List Entry}(hE:Es[i]?=some E)(hs:∀j,S' j=if i=j then true else S j):
  (∀t,getS (E++pickE' Es 0 S st0) t=getS (pickE' Es 0 S' st0) t)∧∀n,getB (E++pickE' Es 0 S st0) n=getB (pickE' Es 0 S' st0) n:=by
 have hk:=distinct_kill hS.dist hE
 refine⟨fun t=>?_,fun n=>?_⟩
 ·cases hh:hasS E t with
  |true=>
   have e1:=(getS_app hk (pickE' Es 0 S st0) [] t).1 hh
   rw [List.append_nil]at e1
   rw [e1,pick_S_some Es 0 _ st0 hS.dist i E hE (by rw [Nat.zero_add,hs,if_pos rfl]) hh]
  |false=>
   rw [(getS_app hk (pickE' Es 0 S st0) [] t).2 hh]
   exact pick_congr hS.dist fun j E' hj hh'=>by
    rw [hs]
    by_cases e:i=j
    ·subst e
     rw [hE]at hj
     cases hj
     rw [hh]at hh'
     cases hh'
    ·rw [if_neg e]
 ·cases hh:hasB E n with
  |true=>
   have e1:=((getB_app hk (pickE' Es 0 S st0) [] n).1 hh).1
   rw [List.append_nil]at e1
   rw [e1,pick_B_some Es 0 _ st0 hS.dist i E hE (by rw [Nat.zero_add,hs,if_pos rfl]) hh]
  |false=>
   rw [(getB_app hk (pickE' Es 0 S st0) [] n).2 hh]
   exact pick_congrB hS.dist fun j E' hj hh'=>by
    rw [hs]
    by_cases e:i=j
    ·subst e
     rw [hE]at hj
     cases hj
     rw [hh]at hh'
     cases hh'
    ·rw [if_neg e]
theorem draw_late (hΓ:GSound P Γ)(h:chk l (p+1) As=true)(hS:Steps' P Γ N l p As st0 Es){late:List Nat}(hl:lateOk l p As late=true)
  {t:TypeId} {x y:Operand} {ty:TypeId} {pos:String} {after:Array Edge} (hop:l[p]?=some ⟨none,.store t x y,ty,pos,after,none⟩) {n:Nat} {b:Blk} (hst:storeL P (pickE' Es 0 (inL (ancO As p)) st0) t x y=some (n,b))
  (hT:∀a w,R γ0 w0 N (.blk n b::pickE' Es 0 (fun _=>true) st0) a w→wpList P l.toArray Q (l.drop (p+1)) a w):
  ∀(fuel:Nat) (listed:Array Bool) (a:Act) (w:World),listed.size=l.length→Closed l listed→(∀i,L listed i=true→i≤p)→(List.range l.length).countP (fun i=>!L listed i)≤fuel→
   R γ0 w0 N (if L listed p=true then .blk n b::pickE' Es 0 (L listed) st0 else pickE' Es 0 (L listed) st0) a w→wpAny P .any l.toArray Q fuel listed a w:=by
 have hpl:p<l.length:=(gsS hop).1
 intro fuel
 induction fuel with
 |zero=>
  intro listed a w hs hc hlp hcnt hR
  have hall:∀i,i<l.length→L listed i=true:=fun i hi=>by
   have:=List.countP_eq_zero.1 (Nat.le_zero.1 hcnt) i (List.mem_range.2 hi)
   simpa using this
  have hpn:l.length=p+1:=by
   rcases Nat.lt_or_ge (p+1) l.length with h1|h1
   ·have:=hlp (p+1) (hall _ h1);omega
   ·omega
  refine draw_tail h 0 (p+1) listed a w hs (Nat.le_refl _) (by omega) (by omega) (fun i hi=>?_) (hT a w ?_)
  ·rw [hall i hi];simp;omega
  ·have key:pickE' Es 0 (L listed) st0=pickE' Es 0 (fun _=>true) st0:=pick_ext Es 0 (fun j hj=>hall (0+j) (by rw [hS.len]at hj;omega)) st0
   rw [if_pos (hall p hpl),key]at hR
   exact hR
 |succ fuel ih=>
  intro listed a w hs hc hlp hcnt hR
  by_cases hall:∀i,i≤p→L listed i=true
  ·refine draw_tail h (fuel+1) (p+1) listed a w hs (Nat.le_refl _) (by omega) ?_ (fun i hi=>?_) (hT a w ?_)
   ·have:l.length-(p+1)≤(List.range l.length).countP (fun i=>!L listed i):=by
     have h1:(List.range l.length).countP (fun i=>!L listed i)=(List.range l.length).countP (fun i=>decide (p+1≤i)):=List.countP_congr fun i hi=>by
      by_cases hip:i≤p
      ·simp [hall i hip];omega
      ·have:L listed i=false:=by
        cases hL:L listed i with
        |false=>rfl
        |true=>exact absurd (hlp i hL) hip
       simp [this];omega
     rw [h1]
     exact count_ge l.length (p+1)
    omega
   ·by_cases hip:i≤p
    ·rw [hall i hip];simp;omega
    ·have:L listed i=false:=by
      cases hL:L listed i with
      |false=>rfl
      |true=>exact absurd (hlp i hL) hip
     rw [this];simp;omega
   ·have key:pickE' Es 0 (L listed) st0=pickE' Es 0 (fun _=>true) st0:=pick_ext Es 0 (fun j hj=>hall (0+j) (by rw [hS.len]at hj;omega)) st0
    rw [if_pos (hall p (Nat.le_refl _)),key]at hR
    exact hR
  ·refine⟨fun hr=>?_,fun i hi=>?_⟩
   ·exfalso
    apply hall
    intro i
    induction i using Nat.strongRecOn with
    |_ i ih2=>
     intro hip
     cases hL:L listed i with
     |true=>rfl
     |false=>
      have hlt:i<l.length:=by omega
      have hok:l[i]?=some l[i]:=gsE hlt
      have:=ready_of hs hok hL (fun k hk=>by
       have h1:=chk_dir h hok k hk
       exact ih2 k h1 (by omega))
      rw [hr]at this
      cases this
   ·obtain⟨o,h1,h2,h3⟩:=ready_spec hs hi
    have hlt:=(gsS h1).1
    have hanc:=closed_anc h hc i o h1 h3
    have hset:∀j,L (listed.setIfInBounds i true) j=if i=j then true else L listed j:=L_set (by omega)
    have hip:i≤p:=by
     rcases Nat.lt_or_ge p i with h4|h4
     ·exfalso
      exact hall fun j hj=>hanc j (chk_tail h h1 (by omega) j (by omega))
     ·exact h4
    have hle:∀j,inL (ancO As i) j=true→L listed j=true:=fun j hj=>hanc j (by unfold inL at hj;simpa using hj)
    have hlook:=look_pick hpl h hS hc h1 hip h2 h3
    have hcl:Closed l (listed.setIfInBounds i true):=fun j o' hj hL k hk=>by
     rw [hset]at hL⊢
     by_cases e:i=j
     ·subst e
      rw [h1]at hj
      cases hj
      split
      ·rfl
      ·exact h3 k hk
     ·rw [if_neg e]at hL
      split
      ·rfl
      ·exact hc j o' hj hL k hk
    have hbd:∀j,L (listed.setIfInBounds i true) j=true→j≤p:=fun j hL=>by
     rw [hset]at hL
     by_cases e:i=j
     ·omega
     ·rw [if_neg e]at hL
      exact hlp j hL
    have hct:(List.range l.length).countP (fun j=>!L (listed.setIfInBounds i true) j)≤fuel:=by
     have:=count_set (fun j=>!L listed j) (fun j=>!L (listed.setIfInBounds i true) j) i (by simp [h2]) (by simp [hset]) (fun j hj=>by simp only [hset,if_neg (fun e:i=j=>hj e.symm)]) (List.range l.length) List.nodup_range (List.mem_range.2 hlt)
     omega
    by_cases hpi:i=p
    · --the store
     subst hpi
     rw [hop]at h1
     cases h1
     rw [if_neg (by rw [h2];simp)]at hR
     have hev:∀z∈(Op.store t x y).operands.toList,ev (pickE' Es 0 (inL (ancO As i)) st0) z=ev (pickE' Es 0 (L listed) st0) z:=fun z hz=>by
      cases z with
      |tmp s=>exact hlook s (by unfold Oper.looksAt;exact List.mem_append_left _ (List.mem_filterMap.2 ⟨.tmp s,hz,rfl⟩))
      |const v=>rfl
      |global g=>rfl
      |func f=>rfl
     have hst':=storeL_mono (pick_le hS hle) (hev x (by simp [Op.operands])) (hev y (by simp [Op.operands])) hst
     have hE:=storeL_E hst'
     unfold wpOp
     have hget:l.toArray[i]?=some ⟨none,.store t x y,ty,pos,after,none⟩:=by simpa using hop
     rw [hget]
     simp only
     obtain⟨η,γ,hI⟩:=id hR
     rw [wantO_sound hI (o:=⟨none,.store t x y,ty,pos,after,none⟩) (b:=true) rfl,if_pos rfl]
     left
     refine stepO_sound (o:=⟨none,.store t x y,ty,pos,after,none⟩) (st':=.blk n b::pickE' Es 0 (L listed) st0) hΓ hR hE fun a' w' hR'=>?_
     refine ih _ a' w' (by simpa using hs) hcl hbd hct ?_
     rw [hset,if_pos rfl,if_pos rfl]
     have e1:∀(j:Nat) (E:List Entry),Es[j]?=some E→L listed j=L (listed.setIfInBounds i true) j:=fun j E hj=>by
      have:=(gsS hj).1
      rw [hS.len]at this
      rw [hset,if_neg (by omega)]
     exact hR'.congr (fun s=>by
      show getS (pickE' Es 0 (L listed) st0) s=getS (pickE' Es 0 _ st0) s
      exact pick_congr hS.dist fun j E hj _=>e1 j E hj) (fun m=>by
      show(if n=m then some b else getB (pickE' Es 0 (L listed) st0) m)=(if n=m then some b else getB (pickE' Es 0 _ st0) m)
      rw [pick_congrB hS.dist fun j E hj _=>e1 j E hj])
    ·have hip':i<p:=by omega
     have hEi:Es[i]?=some (Es[i]'(by rw [hS.len];exact hip')):=gsE _
     obtain⟨d,hd,hN,hod,hent⟩:=hS.step i o _ h1 hEi
     generalize Es[i]'(by rw [hS.len];exact hip')=E at hEi hod hent
     have hent':=entG_mono (ops:=l.toArray) (pick_le hS hle) hlook hent
     obtain⟨g1,g2⟩:=pick_add hS (S:=L listed) (S':=L (listed.setIfInBounds i true)) hEi hset
     have hLp:L (listed.setIfInBounds i true) p=L listed p:=by rw [hset,if_neg hpi]
     cases hp:L listed p with
     |false=>
      rw [if_neg (by rw [hp];simp)]at hR
      have hfree:∀n,hasB E n=true→getB (pickE' Es 0 (L listed) st0) n=none:=fun n hn=>by
       rw [pick_B_none Es 0 (L listed) st0 hS.dist (fun j E' hj hL=>by
        by_cases e:i=j
        ·subst e;rw [Nat.zero_add,h2]at hL;cases hL
        ·exact(distinct_ne hS.dist hEi hj e).2 n hn)]
       exact hS.free E (List.mem_of_getElem? hEi) n hn
      refine entG_step hΓ hd hN hent' hfree h1 hR fun a' w' hR'=>?_
      refine ih _ a' w' (by simpa using hs) hcl hbd hct ?_
      rw [hLp,hp,if_neg (by simp)]
      exact hR'.congr g1 g2
     |true=>
      rw [if_pos hp]at hR
      have hil:i∈late:=by
       by_cases hn:i∈late
       ·exact hn
       ·exfalso
        have:=closed_anc h hc p _ hop (hc p _ hop hp) i (late_anc hl hip' hn)
        rw [h2]at this
        cases this
      obtain⟨_,d1,op1,ty1,pos1,after1,h4,h5⟩:=late_op hl hil
      rw [h4]at h1
      cases h1
      obtain⟨hent2,v,hE1⟩:=late_ent (n:=n) (b:=b) h5 (show entO P Γ (pickE' Es 0 (L listed) st0) d1 op1=some E from hent')
      subst hE1
      have hent3:entG P Γ l.toArray (.blk n b::pickE' Es 0 (L listed) st0) ⟨some d1,op1,ty1,pos1,after1,none⟩=some [.slot d1 v]:=hent2
      have hfree:∀m,hasB [Entry.slot d1 v] m=true→getB (.blk n b::pickE' Es 0 (L listed) st0) m=none:=fun m hm=>by
       simp [hasB]at hm
      refine entG_step hΓ hd hN hent3 hfree h4 hR fun a' w' hR'=>?_
      refine ih _ a' w' (by simpa using hs) hcl hbd hct ?_
      rw [hLp,hp,if_pos rfl]
      refine hR'.congr (fun s=>?_) (fun m=>?_)
      ·exact g1 s
      have:=g2 m
      show(if n=m then some b else getB (pickE' Es 0 (L listed) st0) m)=(if n=m then some b else getB (pickE' Es 0 _ st0) m)
      rw [show getB (pickE' Es 0 (L listed) st0) m=_ from this]
theorem W.late (hm:P.follows .mixedOrders=true)(hΓ:GSound P Γ){id:Nat}(p:Nat)(As:List (List Nat))(late:List Nat){rest:List Oper}{t:TypeId}{x y:Operand}{ty:TypeId}{pos:String}{after:Array Edge}{n:Nat}{b:Blk}(h:chk l (p+1) As=true)(hl:lateOk l p As late=true)
  (hf:FlowT P Γ N l.toArray As st0 0 l [] Es (⟨none,.store t x y,ty,pos,after,none⟩::rest)) (hp:p+1+rest.length=l.length) (hd:distB Es=true) (hfr:freeB st0 Es=true)
  (hst:storeL P (pickE' Es 0 (inL (ancO As p)) st0) t x y=some (n,b)) (hT:WL P γ0 w0 N l.toArray rest (.blk n b::pickE' Es 0 (fun _=>true) st0) Q):W P γ0 w0 N st0 (.region id l.toArray true) Q:=fun a w hR=>by
 obtain⟨pre,hpre,h1⟩:=flowT_split hf
 have hpl:pre.length=p:=by rw [hpre,List.length_append,List.length_cons]at hp;omega
 have hop:l[p]?=some ⟨none,.store t x y,ty,pos,after,none⟩:=by
  rw [hpre,←hpl,List.getElem?_append_right (Nat.le_refl _),Nat.sub_self]
  rfl
 have hdrop:l.drop (p+1)=rest:=by
  rw [hpre,←hpl,List.drop_append,List.drop_of_length_le (by omega),List.nil_append,Nat.add_sub_cancel_left]
  rfl
 obtain⟨g1,g2⟩:=flow_steps h h1 rfl (fun k o hk=>by
  rw [hpre,Nat.zero_add,List.getElem?_append_left (gsS hk).1]
  exact hk) (fun k o E _ hE=>by simp at hE)
 have hS:Steps' P Γ N l p As st0 Es:=⟨by rw [g1,hpl,Nat.zero_add],dist_of hd,free_of hfr,fun i o E hi hE=>g2 i o E hi hE⟩
 refine wp_region_any hm ?_
 obtain⟨η,γ,hI⟩:=hR
 have hR':R γ0 w0 N st0 a w.drew:=⟨η,γ,hI.world w.drew rfl rfl rfl rfl⟩
 have hL0:∀i,L (Array.replicate l.toArray.size false) i=false:=fun i=>by
  unfold L
  simp only [Array.getD_eq_getD_getElem?,Array.getElem?_replicate]
  split<;>rfl
 have hpick:pickE' Es 0 (L (Array.replicate l.toArray.size false)) st0=st0:=pick_none Es 0 (fun j=>hL0 _) st0
 refine draw_late hΓ h hS hl hop hst (fun a w hR=>by rw [hdrop];exact hT a w hR) _ _ a w.drew (by simp) (fun i o _ hL=>by rw [hL0]at hL;cases hL) (fun i hL=>by rw [hL0]at hL;cases hL) ?_ (by rw [hL0,if_neg (by simp),hpick];exact hR')
 simp only [hL0]
 simp
end
section
variable {Γ:Models}{γ0:Nat→Option Nat}{w0:World}{N:Nat}{st1:St}{Q:Exit→Act→World→Prop}
theorem W.lateA (hΓ:GSound Tryz.prog Γ){id:Nat}{l rest:List Oper}{st0 stA:St}(p:Nat)(As:List (List Nat))(late:List Nat){Es:List (List Entry)}{t:TypeId}{x y:Operand}{ty:TypeId}{pos:String}{after:Array Edge}{n:Nat}{b:Blk}(h:chk l (p+1) As=true)(hl:lateOk l p As late=true)
  (hf:FlowT Tryz.prog Γ N l.toArray As st0 0 l [] Es (⟨none,.store t x y,ty,pos,after,none⟩::rest)) (hp:p+1+rest.length=l.length) (hd:distB Es=true) (hfr:freeB st0 Es=true)
  (hA:pickE' Es 0 (inL (ancO As p)) st0=stA) (hst:storeL Tryz.prog stA t x y=some (n,b)) (hst1:.blk n b::pickE' Es 0 (fun _=>true) st0=st1) (hT:WL Tryz.prog γ0 w0 N l.toArray rest st1 Q):W Tryz.prog γ0 w0 N st0 (.region id l.toArray true) Q:=
 W.late follows_mixed hΓ p As late h hl hf hp hd hfr (by rw [hA];exact hst) (by rw [hst1];exact hT)
theorem W.lateB (hΓ:GSound Tryz.prog Γ){id:Nat}{l rest:List Oper}{st0 stA:St}(p:Nat)(As:List (List Nat))(late:List Nat){Es:List (List Entry)}{t:TypeId}{x y:Operand}{ty:TypeId}{pos:String}{after:Array Edge}{n:Nat}{b:Blk}
  (hT:WL Tryz.prog γ0 w0 N l.toArray rest st1 Q) (h:chk l (p+1) As=true:=by kernel_rfl) (hl:lateOk l p As late=true:=by kernel_rfl)
  (hf:FlowT Tryz.prog Γ N l.toArray As st0 0 l [] Es (⟨none,.store t x y,ty,pos,after,none⟩::rest):=by(repeat(first|refine FlowT.opA (h:=?_)|refine FlowT.opX (h:=?_)|refine FlowT.opY (h:=?_)|refine FlowT.opZ (h:=?_)));exact FlowT.done)
  (hp:p+1+rest.length=l.length:=by rfl) (hd:distB Es=true:=by rfl) (hfr:freeB st0 Es=true:=by rfl)
  (hA:pickE' Es 0 (inL (ancO As p)) st0=stA:=by simp (disch:=decide) only [pick_nil,pick_t,pick_f,List.cons_append,List.nil_append,Nat.reduceAdd];rfl) (hst:storeL Tryz.prog stA t x y=some (n,b):=by unfold storeL;exact evxP)
  (hst1:.blk n b::pickE' Es 0 (fun _=>true) st0=st1:=by simp only [pick_nil,pick_all,List.cons_append,List.nil_append];rfl):W Tryz.prog γ0 w0 N st0 (.region id l.toArray true) Q:=W.lateA hΓ p As late h hl hf hp hd hfr hA hst hst1 hT
end
end
section
theorem rowsF_iff {α:Type}{f:α→List Value}(hf:∀x y,f x=f y→x=y){a b:List α}:rowsF f a=rowsF f b↔a=b:=⟨rowsF_inj hf,fun h=>by rw [h]⟩
@[simp] theorem rowsF_Int {a b:List Int}:rowsF cInt a=rowsF cInt b↔a=b:=rowsF_iff fun x y h=>by simpa [cInt]using h
@[simp] theorem rowsF_Str {a b:List ByteArray}:rowsF cStr a=rowsF cStr b↔a=b:=rowsF_iff fun x y h=>by simpa [cStr]using h
@[simp] theorem rowsF_Bool {a b:List Bool}:rowsF cBool a=rowsF cBool b↔a=b:=rowsF_iff fun x y h=>by simpa [cBool]using h
abbrev aI (n:Int):Arg:=.val false [.sc (.int .i64 n)]
abbrev aB (b:Bool):Arg:=.val false [.sc (.bool b)]
abbrev aS (s:ByteArray):Arg:=.val false [.sc (.string s)]
abbrev aL {α:Type}(f:α→List Value)(l:List α):Arg:=.val false [.sl (rowsF f l)]
abbrev rI (n:Int):Res:=.comp false [.ro (.sc (.int .i64 n))]
abbrev rB (b:Bool):Res:=.comp false [.ro (.sc (.bool b))]
abbrev rS (s:ByteArray):Res:=.comp false [.ro (.sc (.string s))]
abbrev vI (n:Int):PV:=one (.sc (.int .i64 n))
abbrev vB (b:Bool):PV:=one (.sc (.bool b))
abbrev vS (s:ByteArray):PV:=one (.sc (.string s))
abbrev vL {α:Type}(f:α→List Value)(l:List α):PV:=one (.sl (rowsF f l))
noncomputable def mWithin:=mdl (fun _:Int×Int×Int=>True) (fun x=>[aI x.1,aI x.2.1,aI x.2.2]) (fun x=>rB (decide (x.2.1≤x.1∧x.1≤x.2.2)))
theorem mWithin_eq (x lo hi:Int):mWithin [aI x,aI lo,aI hi]=some (rB (decide (lo≤x∧x≤hi))):=mdl_eq (by rintro⟨a,b,c⟩ ⟨d,e,f⟩ h;simpa using h) (x,lo,hi) trivial
set_option maxHeartbeats 4000000
theorem within_s:Sound Tryz.prog 139 mWithin:=by
 refine Sound.mdl Tryz.func139 rfl Tryz.ntmps139 ?_
 rintro⟨x,lo,hi⟩ w-
 refine⟨by simp,?_⟩
 have hΓ:=eN
 refine zI ?_
 by_cases h1:lo≤x
 ·refine zR ?_
  refine At.retA (by rw [Tryz.results139]) (he:=?_)
  simp [h1]
 ·refine zR ?_
  refine At.retA (by rw [Tryz.results139]) (he:=?_)
  simp [h1]
noncomputable def mIn:=mdl (fun _:Int×Int×Int=>True) (fun x=>[aI x.1,aI x.2.1,aI x.2.2]) (fun x=>rB (decide (x.2.1≤x.1∧x.1≤x.2.2)))
theorem mIn_eq (x lo hi:Int):mIn [aI x,aI lo,aI hi]=some (rB (decide (lo≤x∧x≤hi))):=mdl_eq (by rintro⟨a,b,c⟩ ⟨d,e,f⟩ h;simpa using h) (x,lo,hi) trivial
theorem l1In_s:Sound Tryz.prog 39 mIn:=by
 refine Sound.mdl Tryz.func39 rfl Tryz.ntmps39 ?_
 rintro⟨x,lo,hi⟩ w-
 refine⟨by simp,?_⟩
 have hΓ:=eN
 refine zI ?_
 by_cases h1:lo≤x
 ·refine zR ?_
  refine At.retA (by rw [Tryz.results39]) (he:=?_)
  simp [h1]
 ·refine zR ?_
  refine At.retA (by rw [Tryz.results39]) (he:=?_)
  simp [h1]
theorem not_mem_next {α:Type}{x:α}{l:List α}{k:Nat}(hk:k<l.length)(h:x∉l.take k)(hx:¬l[k]=x):x∉l.take (k+1):=by
 rw [List.take_succ_eq_append_getElem hk]
 intro hm
 rcases List.mem_append.1 hm with hm|hm
 ·exact h hm
 ·exact hx (List.mem_singleton.1 hm).symm
theorem row_at {α:Type}(f:α→List Value)(l:List α){k:Nat}(h:k<l.length):(rowsF f l)[k]?=some ((f l[k]).map Leaf.sc):=rowsF_get f l k h
noncomputable def mHas:=mdl (fun x:List Int×Int=>x.1.length≤8796093022207) (fun x=>[aL cInt x.1,aI x.2]) (fun x=>rB (decide (x.2∈x.1)))
theorem mHas_eq (l:List Int)(x:Int)(h:l.length≤8796093022207):mHas [aL cInt l,aI x]=some (rB (decide (x∈l))):=mdl_eq (by rintro⟨a,b⟩ ⟨d,e⟩ h;simpa using h) (l,x) h
theorem has_s:Sound Tryz.prog 76 mHas:=by
 refine Sound.mdl Tryz.func76 rfl Tryz.ntmps76 ?_
 rintro⟨l,x⟩ w hl
 replace hl:l.length≤8796093022207:=hl
 refine⟨by simp,?_⟩
 have hΓ:=eN
 have hlen:=rowsF_len cInt l
 refine zJ ?_
 refine W.loopA (fun k=>k≤l.length∧x∉l.take k) (fun k:Nat=>[.slot 5 (vI k),.slot 0 (vL cInt l),.slot 1 (vI x)]) (fun k=>l.length-k) 0 ⟨Nat.zero_le _,by simp⟩ (h:=?_)
 rintro k ⟨hk,hn⟩
 by_cases hlt:k<l.length
 ·have hrow:=row_at cInt l hlt
  simp only [cInt,List.map_cons,List.map_nil]at hrow
  refine zR ?_
  refine W.condA (h1:=?_) (h2:=?_)
  ·intro hx
   have hx:l[k]=x:=by simpa using hx
   refine zR ?_
   refine At.retA (by rw [Tryz.results76]) (he:=?_)
   simp [←hx]
  ·intro hx
   have hx:¬l[k]=x:=by simpa using hx
   refine zR ?_
   exact At.roundA (k+1) ⟨by omega,not_mem_next hlt hn hx⟩ (by omega)
 ·refine zR ?_
  refine At.retA (by rw [Tryz.results76]) (he:=?_)
  rw [List.take_of_length_le (by omega)]at hn
  simp [hn]
def idxI (l:List Int)(x:Int):Int:=if x∈l then((l.findIdx fun y=>decide (y=x):Nat):Int)else-1
theorem idxI_no {l:List Int}{x:Int}(h:x∉l):idxI l x= -1:=if_neg h
theorem idxI_at {l:List Int}{x:Int}{k:Nat}(hk:k<l.length)(hn:x∉l.take k)(hx:l[k]=x):idxI l x=k:=by
 unfold idxI
 rw [if_pos (hx▸List.getElem_mem hk)]
 congr 1
 refine(List.findIdx_eq hk).2 ⟨by simpa using hx,fun j hj=>?_⟩
 simp only [decide_eq_false_iff_not]
 exact fun e=>hn (List.mem_take_iff_getElem.2 ⟨j,by omega,e⟩)
theorem idxI_pos (l:List Int)(x:Int):decide (0≤idxI l x)=decide (x∈l):=by
 by_cases h:x∈l
 ·simp [idxI,h]
 ·simp [idxI,h]
noncomputable def mIdxI:=mdl (fun x:List Int×Int=>x.1.length≤8796093022207) (fun x=>[aL cInt x.1,aI x.2]) (fun x=>rI (idxI x.1 x.2))
theorem mIdxI_eq (l:List Int)(x:Int)(h:l.length≤8796093022207):mIdxI [aL cInt l,aI x]=some (rI (idxI l x)):=mdl_eq (by rintro⟨a,b⟩ ⟨d,e⟩ h;simpa using h) (l,x) h
theorem idxI_s:Sound Tryz.prog 216 mIdxI:=by
 refine Sound.mdl Tryz.func216 rfl Tryz.ntmps216 ?_
 rintro⟨l,x⟩ w hl
 replace hl:l.length≤8796093022207:=hl
 refine⟨by simp,?_⟩
 have hΓ:=eN
 have hlen:=rowsF_len cInt l
 refine zJ ?_
 refine W.loopA (fun k=>k≤l.length∧x∉l.take k) (fun k:Nat=>[.slot 8 (vI k),.slot 7 (vI l.length),.slot 0 (vL cInt l),.slot 1 (vI x)]) (fun k=>l.length-k) 0 ⟨Nat.zero_le _,by simp⟩ (h:=?_)
 rintro k ⟨hk,hn⟩
 by_cases hlt:k<l.length
 ·have hrow:=row_at cInt l hlt
  simp only [cInt,List.map_cons,List.map_nil]at hrow
  refine zR ?_
  refine W.condA (h1:=?_) (h2:=?_)
  ·intro hx
   have hx:l[k]=x:=by simp only [decide_eq_true_eq]at hx;exact hx.symm
   refine zR ?_
   refine At.retA (by rw [Tryz.results216]) (he:=?_)
   rw [idxI_at hlt hn hx]
  ·intro hx
   have hx:¬l[k]=x:=by simp only [decide_eq_false_iff_not]at hx;exact fun e=>hx e.symm
   refine zR ?_
   exact At.roundA (k+1) ⟨by omega,not_mem_next hlt hn hx⟩ (by omega)
 ·refine zR ?_
  refine At.retA (by rw [Tryz.results216]) (he:=?_)
  rw [List.take_of_length_le (by omega)]at hn
  rw [idxI_no hn]
theorem has_of {P:Program}{f:FuncId}{fn:Func}(h:P.funcs[f]?=some fn)(h1:(fn.name== "runtime.NumGoroutine")=false)(h2:fn.body.isNone=false):Has P f:=⟨fn,h,h1,h2⟩
theorem hsO {P:Program}{f:FuncId}{fn:Func}(h:P.funcs[f]?=some fn)(h1:(fn.name== "runtime.NumGoroutine")=false:=by exact rfl)(h2:fn.body.isNone=false:=by exact rfl):Has P f:=⟨fn,h,h1,h2⟩
noncomputable def mCont:=mdl (fun x:List Int×Int=>x.1.length≤8796093022207) (fun x=>[aL cInt x.1,aI x.2]) (fun x=>rB (decide (x.2∈x.1)))
theorem mCont_eq (l:List Int)(x:Int)(h:l.length≤8796093022207):mCont [aL cInt l,aI x]=some (rB (decide (x∈l))):=mdl_eq (by rintro⟨a,b⟩ ⟨d,e⟩ h;simpa using h) (l,x) h
theorem cont_s:Sound Tryz.prog 171 mCont:=by
 refine Sound.mdl Tryz.func171 rfl Tryz.ntmps171 ?_
 rintro⟨l,x⟩ w hl
 replace hl:l.length≤8796093022207:=hl
 refine⟨by simp,?_⟩
 have hΓ:=env_cons (hsO Tryz.func216) idxI_s env_nil
 have c1:=mIdxI_eq
 have hp:=idxI_pos l x
 refine zJ ?_
 refine At.retA (by rw [Tryz.results171]) (he:=rfl)
end
end Go.Proofs.YtfgkfcfplodaoaaGreatDoor
