/-
  Put together out of 3 texts.
-/
import Derived.Test.YtfgkfcfplodaoaaGreatDoorG16
import Derived.Test.YtfgkfcfplodaoaaGreatDoorG11
set_option linter.unusedSimpArgs false
set_option linter.unusedVariables false
set_option maxRecDepth 100000
namespace Go.Proofs.YtfgkfcfplodaoaaGreatDoor
open Go Go.RowKit
section
section
variable {P:Program}{Γ:Models}{γ0:Nat→Option Nat}{w0:World}{N:Nat}{Q:Exit→Act→World→Prop}{l:List Oper}{p:Nat}{As:List (List Nat)}{Es:List (List Entry)}{st0 st st':St}{a:Act}{w:World}
structure StepsX (P:Program)(Γ:Models)(N:Nat)(l:List Oper)(p:Nat)(As:List (List Nat))(st0:St)(Es:List (List Entry)):Prop where
 len:Es.length=p
 dist:distinct Es
 free:∀E∈Es,∀n,hasB E n=true→getB st0 n=none
 step:∀i o E,l[i]?=some o→Es[i]?=some E→E≠[]→∃d,o.dst=some d∧d<N∧onlyS d E=true∧entG P Γ l.toArray (pickE' Es 0 (inL (ancO As i)) st0) o=some E
theorem hasS_ne {E:List Entry}{t:Nat}(h:hasS E t=true):E≠[]:=fun e=>by subst e;cases h
theorem hasB_ne {E:List Entry}{t:Nat}(h:hasB E t=true):E≠[]:=fun e=>by subst e;cases h
theorem pick_leX (hd:distinct Es)(hf:∀E∈Es,∀n,hasB E n=true→getB st0 n=none){S S':Nat→Bool}(h:∀j,S j=true→S' j=true):LeB (pickE' Es 0 S st0) (pickE' Es 0 S' st0):=by
 intro m b hb
 by_cases hx:∃(j:Nat) (E:List Entry),Es[j]?=some E∧S' j=true∧hasB E m=true
 ·obtain⟨j,E,h1,h2,h3⟩:=hx
  rw [pick_B_some Es 0 S' st0 hd j E h1 (by rw [Nat.zero_add];exact h2) h3]
  by_cases hs:S j=true
  ·rw [pick_B_some Es 0 S st0 hd j E h1 (by rw [Nat.zero_add];exact hs) h3]at hb
   exact hb
  ·exfalso
   have hn:∀(j':Nat) E',Es[j']?=some E'→S (0+j')=true→hasB E' m=false:=fun j' E' h4 h5=>by
    by_cases e:j=j'
    ·subst e;rw [Nat.zero_add]at h5;exact absurd h5 hs
    ·exact(distinct_ne hd h1 h4 e).2 m h3
   rw [pick_B_none Es 0 S st0 hd hn,hf E (List.mem_of_getElem? h1) m h3]at hb
   cases hb
 ·have hn:∀(S:Nat→Bool),(∀j,S j=true→S' j=true)→∀(j:Nat) E,Es[j]?=some E→S (0+j)=true→hasB E m=false:=fun S h (j:Nat) E h1 h2=>by
   cases h3:hasB E m with
   |false=>rfl
   |true=>exact absurd ⟨j,E,h1,h j (by rw [Nat.zero_add]at h2;exact h2),h3⟩ hx
  rw [pick_B_none Es 0 S st0 hd (hn S h)]at hb
  rw [pick_B_none Es 0 S' st0 hd (hn S' (fun _ h=>h))]
  exact hb
theorem pick_addX (hd:distinct Es){S S':Nat→Bool}{i:Nat}{E:List Entry}(hE:Es[i]?=some E)(hs:∀j,S' j=if i=j then true else S j):
  (∀t,getS (E++pickE' Es 0 S st0) t=getS (pickE' Es 0 S' st0) t)∧∀n,getB (E++pickE' Es 0 S st0) n=getB (pickE' Es 0 S' st0) n:=by
 have hk:=distinct_kill hd hE
 refine⟨fun t=>?_,fun n=>?_⟩
 ·cases hh:hasS E t with
  |true=>
   have e1:=(getS_app hk (pickE' Es 0 S st0) [] t).1 hh
   rw [List.append_nil]at e1
   rw [e1,pick_S_some Es 0 _ st0 hd i E hE (by rw [Nat.zero_add,hs,if_pos rfl]) hh]
  |false=>
   rw [(getS_app hk (pickE' Es 0 S st0) [] t).2 hh]
   exact pick_congr hd fun j E' hj hh'=>by
    rw [hs]
    by_cases e:i=j
    ·subst e
     rw [hE]at hj
     cases hj
     rw [hh]at hh'
     cases hh'
    ·rw [if_neg e]
 ·cases hh:hasB E n with
  |true=>
   have e1:=((getB_app hk (pickE' Es 0 S st0) [] n).1 hh).1
   rw [List.append_nil]at e1
   rw [e1,pick_B_some Es 0 _ st0 hd i E hE (by rw [Nat.zero_add,hs,if_pos rfl]) hh]
  |false=>
   rw [(getB_app hk (pickE' Es 0 S st0) [] n).2 hh]
   exact pick_congrB hd fun j E' hj hh'=>by
    rw [hs]
    by_cases e:i=j
    ·subst e
     rw [hE]at hj
     cases hj
     rw [hh]at hh'
     cases hh'
    ·rw [if_neg e]
theorem look_x (h:chk l p As=true)(hpl:p≤l.length)(hS:StepsX P Γ N l p As st0 Es){listed:Array Bool}(hc:Closed l listed){i:Nat}{o:Oper}(h1:l[i]?=some o)(hip:i<p)(h2:L listed i=false)(h3:∀k∈dirO o,L listed k=true):
  ∀t∈o.looksAt l.toArray,getS (pickE' Es 0 (inL (ancO As i)) st0) t=getS (pickE' Es 0 (L listed) st0) t:=fun t ht=>pick_congr hS.dist fun j E' hj hh=>by
 have hanc:=closed_anc h hc i o h1 h3
 have hjl:=(gsS hj).1
 rw [hS.len]at hjl
 have hoj:l[j]?=some l[j]:=gsE (by omega)
 obtain⟨d',hd',_,hod',_⟩:=hS.step j _ E' hoj hj (hasS_ne hh)
 have htd:=onlyS_has hod' hh
 have hb:(l[j]?).bind (·.dst)=some t:=by rw [hoj,htd];exact hd'
 rcases chk_read h h1 hip t ht j hjl hb with h5|h5
 ·rw [hanc j h5]
  unfold inL
  simpa using h5
 ·have hnj:L listed j=false:=by
   cases hL:L listed j with
   |false=>rfl
   |true=>
    have:=closed_anc h hc j _ hoj (hc j _ hoj hL) i h5
    rw [h2]at this
    cases this
  rw [hnj]
  unfold inL
  cases hq:(ancO As i).contains j with
  |false=>rfl
  |true=>
   have:=(chk_anc h h1 j (by simpa using hq)).1
   have h7:=(chk_anc h hoj i h5).1
   omega
theorem step_x (hΓ:GSound P Γ)(h:chk l p As=true)(hpl:p≤l.length)(hS:StepsX P Γ N l p As st0 Es){listed:Array Bool}(hc:Closed l listed){i:Nat}{o:Oper}(h1:l[i]?=some o)(hip:i<p)(h2:L listed i=false)(h3:∀k∈dirO o,L listed k=true)
  {listed':Array Bool} (hset:∀j,L listed' j=if i=j then true else L listed j) (hne:Es[i]?≠some []) (hR:R γ0 w0 N (pickE' Es 0 (L listed) st0) a w) {K:Act→World→Prop} (hK:∀a' w',R γ0 w0 N (pickE' Es 0 (L listed') st0) a' w'→K a' w'):wpOp P l.toArray Q i K a w:=by
 have hanc:=closed_anc h hc i o h1 h3
 have hEi:Es[i]?=some (Es[i]'(by rw [hS.len];exact hip)):=gsE _
 have hne':Es[i]'(by rw [hS.len];exact hip)≠[]:=fun e=>hne (by rw [hEi,e])
 obtain⟨d,hd,hN,hod,hent⟩:=hS.step i o _ h1 hEi hne'
 generalize Es[i]'(by rw [hS.len];exact hip)=E at hEi hod hent hne'
 have hle:∀j,inL (ancO As i) j=true→L listed j=true:=fun j hj=>hanc j (by unfold inL at hj;simpa using hj)
 have hent':=entG_mono (ops:=l.toArray) (pick_leX hS.dist hS.free hle) (look_x h hpl hS hc h1 hip h2 h3) hent
 have hfree:∀n,hasB E n=true→getB (pickE' Es 0 (L listed) st0) n=none:=fun n hn=>by
  rw [pick_B_none Es 0 (L listed) st0 hS.dist (fun j E' hj hL=>by
   by_cases e:i=j
   ·subst e;rw [Nat.zero_add,h2]at hL;cases hL
   ·exact(distinct_ne hS.dist hEi hj e).2 n hn)]
  exact hS.free E (List.mem_of_getElem? hEi) n hn
 obtain⟨g1,g2⟩:=pick_addX (st0:=st0) hS.dist (S:=L listed) (S':=L listed') hEi hset
 exact entG_step hΓ hd hN hent' hfree h1 hR fun a' w' hR'=>hK a' w' (hR'.congr g1 g2)
theorem draw_one (hΓ:GSound P Γ)(h:chk l p As=true)(hpl:p≤l.length){β:Type}{x:Nat}(hxp:x<p){EsA:List (List Entry)}{EsB:β→List (List Entry)}{st1:β→St}(hA:StepsX P Γ N l p As st0 EsA)(hB:∀y,StepsX P Γ N l p As (st1 y) (EsB y))
  (hnA:∀i,i<p→i≠x→x∉ancO As i→EsA[i]?≠some []) (hnB:∀y i,i<p→i≠x→i∉ancO As x→(EsB y)[i]?≠some [])
  (hX:∀(listed listed':Array Bool),(∀j,L listed' j=if x=j then true else L listed j)→L listed x=false→(∀t,∀o,l[x]?=some o→t∈o.looksAt l.toArray→getS (pickE' EsA 0 (inL (ancO As x)) st0) t=getS (pickE' EsA 0 (L listed) st0) t)→(∀j,L listed j=true→x∉ancO As j)→(∀j,j∈ancO As x→L listed j=true)→∀a w (K:Act→World→Prop),R γ0 w0 N (pickE' EsA 0 (L listed) st0) a w→(∀y a' w',R γ0 w0 N (pickE' (EsB y) 0 (L listed') (st1 y)) a' w'→K a' w')→wpOp P l.toArray Q x K a w)
  (hT:∀y a w,R γ0 w0 N (pickE' (EsB y) 0 (fun _=>true) (st1 y)) a w→wpList P l.toArray Q (l.drop p) a w):
  ∀(fuel:Nat) (listed:Array Bool) (a:Act) (w:World),listed.size=l.length→Closed l listed→(∀i,L listed i=true→i<p)→(List.range l.length).countP (fun i=>!L listed i)≤fuel→
   (L listed x=false→R γ0 w0 N (pickE' EsA 0 (L listed) st0) a w)→(L listed x=true→∃y,R γ0 w0 N (pickE' (EsB y) 0 (L listed) (st1 y)) a w)→wpAny P .any l.toArray Q fuel listed a w:=by
 intro fuel
 induction fuel with
 |zero=>
  intro listed a w hs hc hlp hcnt hRA hRB
  have hall:∀i,i<l.length→L listed i=true:=fun i hi=>by
   have:=List.countP_eq_zero.1 (Nat.le_zero.1 hcnt) i (List.mem_range.2 hi)
   simpa using this
  have hpn:l.length=p:=by
   rcases Nat.lt_or_ge p l.length with h1|h1
   ·have:=hlp p (hall p h1);omega
   ·omega
  obtain⟨y,hR⟩:=hRB (hall x (by omega))
  refine draw_tail h 0 p listed a w hs (Nat.le_refl _) hpl (by omega) (fun i hi=>?_) (hT y a w ?_)
  ·rw [hall i hi];simp;omega
  ·have key:pickE' (EsB y) 0 (L listed) (st1 y)=pickE' (EsB y) 0 (fun _=>true) (st1 y):=pick_ext (EsB y) 0 (fun j hj=>hall (0+j) (by rw [(hB y).len]at hj;omega)) _
   rw [←key]
   exact hR
 |succ fuel ih=>
  intro listed a w hs hc hlp hcnt hRA hRB
  by_cases hall:∀i,i<p→L listed i=true
  ·obtain⟨y,hR⟩:=hRB (hall x hxp)
   refine draw_tail h (fuel+1) p listed a w hs (Nat.le_refl _) hpl ?_ (fun i hi=>?_) (hT y a w ?_)
   ·have:l.length-p≤(List.range l.length).countP (fun i=>!L listed i):=by
     have h1:(List.range l.length).countP (fun i=>!L listed i)=(List.range l.length).countP (fun i=>decide (p≤i)):=List.countP_congr fun i hi=>by
      by_cases hip:i<p
      ·simp [hall i hip];omega
      ·have:L listed i=false:=by
        cases hL:L listed i with
        |false=>rfl
        |true=>exact absurd (hlp i hL) hip
       simp [this];omega
     rw [h1]
     exact count_ge l.length p
    omega
   ·by_cases hip:i<p
    ·rw [hall i hip];simp [hip]
    ·have:L listed i=false:=by
      cases hL:L listed i with
      |false=>rfl
      |true=>exact absurd (hlp i hL) hip
     rw [this];simp;omega
   ·have key:pickE' (EsB y) 0 (L listed) (st1 y)=pickE' (EsB y) 0 (fun _=>true) (st1 y):=pick_ext (EsB y) 0 (fun j hj=>hall (0+j) (by rw [(hB y).len]at hj;omega)) _
    rw [←key]
    exact hR
  ·refine⟨fun hr=>?_,fun i hi=>?_⟩
   ·exfalso
    apply hall
    intro i
    induction i using Nat.strongRecOn with
    |_ i ih2=>
     intro hip
     cases hL:L listed i with
     |true=>rfl
     |false=>
      have hlt:i<l.length:=by omega
      have hok:l[i]?=some l[i]:=gsE hlt
      have:=ready_of hs hok hL (fun k hk=>by
       have h1:=chk_dir h hok k hk
       exact ih2 k h1 (by omega))
      rw [hr]at this
      cases this
   ·obtain⟨o,h1,h2,h3⟩:=ready_spec hs hi
    have hlt:=(gsS h1).1
    have hanc:=closed_anc h hc i o h1 h3
    have hip:i<p:=by
     rcases Nat.lt_or_ge i p with h4|h4
     ·exact h4
     ·exfalso
      exact hall fun j hj=>hanc j (chk_tail h h1 h4 j (by omega))
    have hset:∀j,L (listed.setIfInBounds i true) j=if i=j then true else L listed j:=L_set (by omega)
    have hcl:Closed l (listed.setIfInBounds i true):=fun j o' hj hL k hk=>by
     rw [hset]at hL⊢
     by_cases e:i=j
     ·subst e
      rw [h1]at hj
      cases hj
      split
      ·rfl
      ·exact h3 k hk
     ·rw [if_neg e]at hL
      split
      ·rfl
      ·exact hc j o' hj hL k hk
    have hbd:∀j,L (listed.setIfInBounds i true) j=true→j<p:=fun j hL=>by
     rw [hset]at hL
     by_cases e:i=j
     ·omega
     ·rw [if_neg e]at hL
      exact hlp j hL
    have hct:(List.range l.length).countP (fun j=>!L (listed.setIfInBounds i true) j)≤fuel:=by
     have:=count_set (fun j=>!L listed j) (fun j=>!L (listed.setIfInBounds i true) j) i (by simp [h2]) (by simp [hset]) (fun j hj=>by simp only [hset,if_neg (fun e:i=j=>hj e.symm)]) (List.range l.length) List.nodup_range (List.mem_range.2 hlt)
     omega
    have hsz:(listed.setIfInBounds i true).size=l.length:=by simpa using hs
    by_cases hix:i=x
    ·subst hix
     refine hX listed (listed.setIfInBounds i true) hset h2 (fun t o' ho' ht=>?_) (fun j hj hm=>?_) hanc a w _ (hRA h2) fun y a' w' hR'=>ih _ a' w' hsz hcl hbd hct (fun hf=>?_) (fun _=>⟨y,hR'⟩)
     ·rw [h1]at ho'
      cases ho'
      exact look_x h hpl hA hc h1 hip h2 h3 t ht
     ·have hjl:=hlp j hj
      have hoj:l[j]?=some l[j]:=gsE (by omega)
      have:=closed_anc h hc j _ hoj (hc j _ hoj hj) i hm
      rw [h2]at this
      cases this
     ·rw [hset,if_pos rfl]at hf;cases hf
    ·have hLx:L (listed.setIfInBounds i true) x=L listed x:=by rw [hset,if_neg hix]
     cases hx:L listed x with
     |false=>
      refine step_x hΓ h hpl hA hc h1 hip h2 h3 hset (hnA i hip hix fun hm=>?_) (hRA hx) fun a' w' hR'=>ih _ a' w' hsz hcl hbd hct (fun _=>hR') (fun hf=>?_)
      ·have:=hanc x hm
       rw [hx]at this
       cases this
      ·rw [hLx,hx]at hf;cases hf
     |true=>
      obtain⟨y,hR⟩:=hRB hx
      exact step_x hΓ h hpl (hB y) hc h1 hip h2 h3 hset (hnB y i hip hix fun hm=>by
       have hox:l[x]?=some l[x]:=gsE (by omega)
       have:=closed_anc h hc x _ hox (hc x _ hox hx) i hm
       rw [h2]at this
       cases this) hR fun a' w' hR'=>ih _ a' w' hsz hcl hbd hct (fun hf=>by rw [hLx,hx]at hf;cases hf) (fun _=>⟨y,hR'⟩)
inductive FlowX (P:Program)(Γ:Models)(N:Nat)(ops:Array Oper)(As:List (List Nat))(st0:St):Nat→List Oper→List (List Entry)→List (List Entry)→List Oper→Prop
 |done {i:Nat} {l:List Oper} {Es:List (List Entry)}:FlowX P Γ N ops As st0 i l Es Es l
 |step {i d:Nat} {o:Oper} {r rest:List Oper} {Es F:List (List Entry)} {E:List Entry}:o.dst=some d→d<N→entG P Γ ops (pickE' Es 0 (inL (ancO As i)) st0) o=some E→onlyS d E=true→FlowX P Γ N ops As st0 (i+1) r (Es++[E]) F rest→FlowX P Γ N ops As st0 i (o::r) Es F rest
 |skip {i:Nat} {o:Oper} {r rest:List Oper} {Es F:List (List Entry)}:FlowX P Γ N ops As st0 (i+1) r (Es++[[]]) F rest→FlowX P Γ N ops As st0 i (o::r) Es F rest
theorem flowX_steps (hc:chk l p As=true):∀{i:Nat} {r rest:List Oper} {Es F:List (List Entry)} (_:FlowX P Γ N l.toArray As st0 i r Es F rest),i=Es.length→(∀(k:Nat) (o:Oper),r[k]?=some o→l[i+k]?=some o)→
  (∀(k:Nat) (o:Oper) (E:List Entry),l[k]?=some o→Es[k]?=some E→E≠[]→∃d,o.dst=some d∧d<N∧onlyS d E=true∧entG P Γ l.toArray (pickE' Es 0 (inL (ancO As k)) st0) o=some E)→
  (∃m,F.length=i+m∧r.length=m+rest.length∧rest=r.drop m)∧∀(k:Nat) (o:Oper) (E:List Entry),l[k]?=some o→F[k]?=some E→E≠[]→∃d,o.dst=some d∧d<N∧onlyS d E=true∧entG P Γ l.toArray (pickE' F 0 (inL (ancO As k)) st0) o=some E:=by
 have hpre:∀(Es:List (List Entry)) (E:List Entry) (k:Nat) (o':Oper),l[k]?=some o'→k≤Es.length→pickE' (Es++[E]) 0 (inL (ancO As k)) st0=pickE' Es 0 (inL (ancO As k)) st0:=fun Es E k o' hk hki=>by
  refine pick_prefix Es [E] 0 _ st0 fun j hj=>?_
  unfold inL
  cases hq:(ancO As k).contains j with
  |false=>rfl
  |true=>
   have:=(chk_anc hc hk j (by simpa using hq)).1
   omega
 intro i r rest Es F hF
 induction hF with
 |done=>
  intro hi hr hp
  exact⟨⟨0,by omega,by omega,rfl⟩,hp⟩
 | @step i d o r rest Es F E h1 h2 h3 h4 _ ih=>
  intro hi hr hp
  have hio:l[i]?=some o:=by have:=hr 0 o rfl;simpa using this
  obtain⟨⟨m,g1,g2,g3⟩,g4⟩:=ih (by simp [hi]) (fun k o' hk=>by
   have:=hr (k+1) o' (by simpa using hk)
   rw [show i+1+k=i+(k+1)by omega]
   exact this) (fun k o' E' hk hE hne=>by
    by_cases hki:k<i
    ·rw [List.getElem?_append_left (by omega)]at hE
     obtain⟨d',q1,q2,q3,q4⟩:=hp k o' E' hk hE hne
     exact⟨d',q1,q2,q3,by rw [hpre Es E k o' hk (by omega)];exact q4⟩
    ·have hkl:=(gsS hE).1
     have hki':k=i:=by simp at hkl;omega
     subst hki'
     rw [hio]at hk
     cases hk
     have hE2:E'=E:=by
      rw [hi,List.getElem?_append_right (Nat.le_refl _),Nat.sub_self]at hE
      simpa using hE.symm
     subst hE2
     exact⟨d,h1,h2,h4,by rw [hpre Es E' k o hio (by omega)];exact h3⟩)
  exact⟨⟨m+1,by omega,by rw [List.length_cons];omega,by rw [g3];rfl⟩,g4⟩
 | @skip i o r rest Es F _ ih=>
  intro hi hr hp
  obtain⟨⟨m,g1,g2,g3⟩,g4⟩:=ih (by simp [hi]) (fun k o' hk=>by
   have:=hr (k+1) o' (by simpa using hk)
   rw [show i+1+k=i+(k+1)by omega]
   exact this) (fun k o' E' hk hE hne=>by
    by_cases hki:k<i
    ·rw [List.getElem?_append_left (by omega)]at hE
     obtain⟨d',q1,q2,q3,q4⟩:=hp k o' E' hk hE hne
     exact⟨d',q1,q2,q3,by rw [hpre Es [] k o' hk (by omega)];exact q4⟩
    ·exfalso
     have hkl:=(gsS hE).1
     have hki':k=i:=by simp at hkl;omega
     subst hki'
     rw [hi,List.getElem?_append_right (Nat.le_refl _),Nat.sub_self]at hE
     exact hne (by simpa using hE.symm))
  exact⟨⟨m+1,by omega,by rw [List.length_cons];omega,by rw [g3];rfl⟩,g4⟩
theorem flowX_all (hc:chk l p As=true){rest:List Oper}(hF:FlowX P Γ N l.toArray As st0 0 l [] Es rest)(hp:p+rest.length=l.length)(hd:distB Es=true)(hfr:freeB st0 Es=true):StepsX P Γ N l p As st0 Es∧rest=l.drop p:=by
 obtain⟨⟨m,g1,g2,g3⟩,g4⟩:=flowX_steps hc hF rfl (fun k o hk=>by rw [Nat.zero_add];exact hk) (fun k o E _ hE=>by simp at hE)
 have hm:m=p:=by omega
 subst hm
 exact⟨⟨by omega,dist_of hd,free_of hfr,g4⟩,g3⟩
def maskE (As:List (List Nat))(x:Nat):Nat→List (List Entry)→List (List Entry)
 |_,[]=>[]
 |i,E::r=>(if(ancO As i).contains x then []else E)::maskE As x (i+1) r
theorem maskE_get (As:List (List Nat))(x:Nat):∀(i:Nat) (Es:List (List Entry)) (j:Nat),x∉ancO As (i+j)→(maskE As x i Es)[j]?=Es[j]?
 |i,[],j,h=>rfl
 |i,E::r,0,h=>by
  unfold maskE
  rw [if_neg (by simpa using h)]
  rfl
 |i,E::r,j+1,h=>by
  unfold maskE
  rw [List.getElem?_cons_succ,List.getElem?_cons_succ]
  exact maskE_get As x (i+1) r j (by rw [show i+1+j=i+(j+1)by omega];exact h)
def neB (x:Nat):Nat→List (List Entry)→Bool
 |_,[]=>true
 |i,E::r=>(if i=x then E.isEmpty else !E.isEmpty)&&neB x (i+1) r
theorem neB_get (x:Nat):∀(i:Nat) (Es:List (List Entry)) (_:neB x i Es=true) (j:Nat) (E:List Entry),Es[j]?=some E→(i+j=x→E=[])∧(i+j≠x→E≠[])
 |i,[],_,j,E,h=>by simp at h
 |i,E0::r,hn,0,E,h=>by
  simp only [neB,Bool.and_eq_true]at hn
  simp only [List.getElem?_cons_zero,Option.some.injEq]at h
  subst h
  refine⟨fun e=>?_,fun e=>?_⟩
  ·have:=hn.1
   rw [if_pos (by omega)]at this
   simpa using this
  ·have:=hn.1
   rw [if_neg (by omega)]at this
   intro e2
   subst e2
   simp at this
 |i,E0::r,hn,j+1,E,h=>by
  simp only [neB,Bool.and_eq_true]at hn
  have:=neB_get x (i+1) r hn.2 j E (by simpa using h)
  rw [show i+1+j=i+(j+1)by omega]at this
  exact this
def neM (As:List (List Nat))(x:Nat):Nat→List (List Entry)→Bool
 |_,[]=>true
 |i,E::r=>(decide (i=x)||(ancO As i).contains x||!E.isEmpty)&&neM As x (i+1) r
theorem neM_get (As:List (List Nat))(x:Nat):∀(i:Nat) (Es:List (List Entry)) (_:neM As x i Es=true) (j:Nat) (E:List Entry),Es[j]?=some E→i+j≠x→x∉ancO As (i+j)→E≠[]
 |i,[],_,j,E,h,_,_=>by simp at h
 |i,E0::r,hn,0,E,h,h1,h2=>by
  simp only [neM,Bool.and_eq_true]at hn
  simp only [List.getElem?_cons_zero,Option.some.injEq]at h
  subst h
  intro e
  subst e
  have:=hn.1
  rw [Nat.add_zero]at h1 h2
  simp [h1,h2]at this
 |i,E0::r,hn,j+1,E,h,h1,h2=>by
  simp only [neM,Bool.and_eq_true]at hn
  exact neM_get As x (i+1) r hn.2 j E (by simpa using h) (by omega) (by rw [show i+1+j=i+(j+1)by omega];exact h2)
theorem opC_wp {d f n:Nat}{x0:Operand}{xs:List Operand}{ts:Array TypeId}{ty:TypeId}{pos:String}{after:Array Edge}
  {α β:Type} {ok:α→Prop} {us:α→List PL} {enc:α→List Arg} {rel:α→β→Prop} {us':α→β→List PL} {res:α→β→Res}
  (hf:Has P f) (hs:SoundC P f ok us enc rel us' res) (x:α) (hok:ok x) (hN:d<N)
  (hp:ev st x0=one (.ptr n 0)) (hb:getB st n=some (.box (us x))) (he:(us x).all exB=true) (ha:datasO st n xs=some (enc x)) {K:Act→World→Prop}
  (hK:∀y,rel x y→∀a w,R γ0 w0 N (impE (.blk n (.box (us' x y))::st) d (res x y)) a w→K a w) (hR:R γ0 w0 N st a w):
  Oper.wp P ⟨some d,.call ⟨.value (.func f),(x0::xs).toArray,ts⟩,ty,pos,after,none⟩ a w K Q:=by
 obtain⟨η,γ,hI⟩:=hR
 have h0:=ev_sound hI x0
 rw [hp]at h0
 obtain⟨ls,b,g1,g2,g3⟩:=RepV.one_iff.1 h0
 obtain⟨b',cs,t,g4,g5,g6,g7⟩:=hI.blks n _ hb
 rw [g2]at g4
 injection g4 with g4
 injection g4 with g4
 injection g4 with g4
 subst g4
 obtain⟨g8,g9⟩:=g7.exs he
 have hcs:cs=((us x).map exV).toArray:=by rw [←g8]
 have hlt:=heap_lt g6
 have hglob:GlobOk (own1 b) w:=fun g vs hg=>by
  obtain⟨k1,k2,k3⟩:=hI.globw g vs hg
  refine⟨own1_other (fun e=>?_),k2,k3⟩
  obtain⟨m1,m2,_⟩:=hI.glob g vs hg
  have:=(hI.low g m2 m1).1
  rw [e,g5]at this
  cases this
 have hkb:Kp w w γ (own1 b):=⟨Nat.le_refl _,fun k _ hk=>⟨own1_other (fun e=>by rw [e,g5]at hk;cases hk),rfl⟩⟩
 have hcall:=hs.2 x b t (xs.map a.eval) w hok hglob (fun l hl=>(g9 l hl).kp hkb) (by rw [←hcs];exact g6) (datasO_sound hI g5 ha)
 have hrun:=enter_of (P:=P) hf (a:=a) (w:=w) (args:=x0::xs) (ts:=ts) (dst:=some d) (ty:=ty) (pos:=pos) (after:=after) (g:=none)
 unfold Oper.wp
 rw [hrun]
 show Calls P f ((x0::xs).map a.eval).toArray w _
 rw [List.map_cons,g3]
 refine hcall.mono fun e w' ⟨y,t',hrel,hpost⟩=>?_
 have hI2:=hI.turnO n _ (us' x y) hb b g5 (.cells ((us' x y).map exV).toArray t' (0,0)) (fun hn hk=>⟨b,((us' x y).map exV).toArray,t',g2,g5,putO_same _ hlt,by
  simpa using RepPs.ofExs (((hs.1 x y hok hrel).ok fun l hl=>(g9 l hl).kp hk))⟩)
 obtain⟨u,rfl,h2⟩:=impE_sound hI2 hN hpost
 exact hK _ hrel _ _ h2
theorem W.oneC (hm:P.follows .mixedOrders=true)(hΓ:GSound P Γ){id:Nat}(p x:Nat)(As:List (List Nat)){d f m t0:Nat}{xs:List Operand}{ts:Array TypeId}{ty:TypeId}{pos:String}{after:Array Edge}
  {A B:Type} {ok:A→Prop} {enc:A→List Arg} {rel:A→B→Prop} {res:A→B→Res} {v:B→PV} {EsA:List (List Entry)} {EsB:Cu→B→List (List Entry)} {restA rest:List Oper}
  (hf:Has P f) (hs:SoundCu P f ok enc rel res) (c:Cu) (hc:CuOk c) (a0:A) (hok:ok a0)
  (h:chk l p As=true) (hxp:x<p) (hoX:l[x]?=some ⟨some d,.call ⟨.value (.func f),(.tmp t0::xs).toArray,ts⟩,ty,pos,after,none⟩) (hN:d<N)
  (hfA:FlowX P Γ N l.toArray As st0 0 l [] EsA restA) (hpA:p+restA.length=l.length) (hdA:distB EsA=true) (hfrA:freeB st0 EsA=true) (hneA:neM As x 0 EsA=true)
  (ht:getS (pickE' EsA 0 (inL (ancO As x)) st0) t0=one (.ptr m 0)) (hb:getB st0 m=some (.box (cuL c))) (ha:∀st,datasO st m xs=some (enc a0))
  (hst:∀c' b st,impE (.blk m (.box (cuL c'))::st) d (res a0 b)=.slot d (v b)::.blk m (.box (cuL c'))::st)
  (hB:∀c' b,CuTo c c'→rel a0 b→FlowX P Γ N l.toArray As (.slot d (v b)::.blk m (.box (cuL c'))::st0) 0 l [] (EsB c' b) rest∧p+rest.length=l.length∧distB (EsB c' b)=true∧freeB (.slot d (v b)::.blk m (.box (cuL c'))::st0) (EsB c' b)=true∧neB x 0 (EsB c' b)=true∧maskE As x 0 (EsB c' b)=EsA∧((EsB c' b).all fun E=>!hasS E d)=true∧WL P γ0 w0 N l.toArray rest (pickE' (EsB c' b) 0 (fun _=>true) (.slot d (v b)::.blk m (.box (cuL c'))::st0)) Q):
  W P γ0 w0 N st0 (.region id l.toArray true) Q:=fun a w hR=>by
 have hpl:p≤l.length:=by omega
 obtain⟨sA,-⟩:=flowX_all h hfA hpA hdA hfrA
 refine wp_region_any hm ?_
 obtain⟨η,γ,hI⟩:=hR
 have hR':R γ0 w0 N st0 a w.drew:=⟨η,γ,hI.world w.drew rfl rfl rfl rfl⟩
 have hL0:∀i,L (Array.replicate l.toArray.size false) i=false:=fun i=>by
  unfold L
  simp only [Array.getD_eq_getD_getElem?,Array.getElem?_replicate]
  split<;>rfl
 have hpick:pickE' EsA 0 (L (Array.replicate l.toArray.size false)) st0=st0:=pick_none EsA 0 (fun j=>hL0 _) st0
 refine draw_one (β:={q:Cu×B//CuTo c q.1∧rel a0 q.2}) (EsB:=fun q=>EsB q.1.1 q.1.2) (st1:=fun q=>.slot d (v q.1.2)::.blk m (.box (cuL q.1.1))::st0) hΓ h hpl hxp sA (fun q=>?_) (fun i hi hix him he=>?_) (fun q i hi hix _ he=>?_) ?_ (fun q a w hR=>?_) _ _ a w.drew (by simp) (fun i o _ hL=>by rw [hL0]at hL;cases hL) (fun i hL=>by rw [hL0]at hL;cases hL) ?_ (fun _=>by rw [hpick];exact hR') (fun hL=>by rw [hL0]at hL;cases hL)
 ·obtain⟨b1,b2,b3,b4,_⟩:=hB _ _ q.2.1 q.2.2
  exact(flowX_all h b1 b2 b3 b4).1
 ·exact neM_get As x 0 _ hneA i [] he (by omega) (by rw [Nat.zero_add];exact him) rfl
 ·obtain⟨b1,b2,b3,b4,b5,_⟩:=hB _ _ q.2.1 q.2.2
  exact(neB_get x 0 _ b5 i [] he).2 (by omega) rfl
 ·intro listed listed' hset hLx hlook hdesc _ a w K hR hK
  have hop:Operand.tmp t0∈(Op.call ⟨.value (.func f),(.tmp t0::xs).toArray,ts⟩).operands.toList:=by
   simp [Op.operands,Call.operands]
  have hev:ev (pickE' EsA 0 (L listed) st0) (.tmp t0)=one (.ptr m 0):=by
   rw [←ht]
   exact(hlook t0 _ hoX (by
    unfold Oper.looksAt
    exact List.mem_append_left _ (List.mem_filterMap.2 ⟨.tmp t0,hop,rfl⟩))).symm
  have hbm:getB (pickE' EsA 0 (L listed) st0) m=some (.box (cuL c)):=by
   rw [pick_B_none EsA 0 _ st0 sA.dist (fun j E hj _=>?_),hb]
   cases hh:hasB E m with
   |false=>rfl
   |true=>
    have:=sA.free E (List.mem_of_getElem? hj) m hh
    rw [hb]at this
    cases this
  unfold wpOp
  have hget:l.toArray[x]?=some ⟨some d,.call ⟨.value (.func f),(.tmp t0::xs).toArray,ts⟩,ty,pos,after,none⟩:=by simpa using hoX
  rw [hget]
  simp only
  rw [if_pos (by simp [Region.wanted])]
  left
  refine opC_wp hf hs (c,a0) ⟨hc,hok⟩ hN hev hbm (cuL_ex c) (ha _) (fun y hy a' w' hR2=>?_) hR
  rw [hst y.1 y.2]at hR2
  obtain⟨b1,b2,b3,b4,b5,b6,b7,_⟩:=hB _ _ hy.1 hy.2
  have sB:=(flowX_all h b1 b2 b3 b4).1
  have hsame:∀j,L listed j=true→EsA[j]?=(EsB y.1 y.2)[j]?:=fun j hj=>by
   rw [←b6]
   exact maskE_get As x 0 _ j (by rw [Nat.zero_add];exact hdesc j hj)
  have hL':∀(j:Nat) E,(EsB y.1 y.2)[j]?=some E→E≠[]→L listed' (0+j)=true→L listed j=true:=fun j E hj hne hL=>by
   rw [Nat.zero_add,hset]at hL
   by_cases e:x=j
   ·exact absurd ((neB_get x 0 _ b5 j E hj).1 (by omega)) hne
   ·rwa [if_neg e]at hL
  have hL2:∀j,L listed j=true→L listed' (0+j)=true:=fun j hj=>by
   rw [Nat.zero_add,hset]
   split
   ·rfl
   ·exact hj
  refine hK ⟨y,hy⟩ a' w' (hR2.congr (fun t=>?_) (fun n=>?_))
  ·show(if d=t then v y.2 else getS (pickE' EsA 0 (L listed) st0) t)=_
   by_cases hx:∃(j:Nat) (E:List Entry),(EsB y.1 y.2)[j]?=some E∧L listed' (0+j)=true∧hasS E t=true
   ·obtain⟨j,E,h1,h2,h3⟩:=hx
    have hj:=hL' j E h1 (hasS_ne h3) h2
    rw [pick_S_some _ 0 _ _ sB.dist j E h1 h2 h3,if_neg (fun e=>by
     have:=List.all_eq_true.1 b7 E (List.mem_of_getElem? h1)
     rw [e,h3]at this
     cases this),pick_S_some _ 0 _ _ sA.dist j E (by rw [hsame j hj];exact h1) (by rw [Nat.zero_add];exact hj) h3]
   ·have hn:∀(j:Nat) E,(EsB y.1 y.2)[j]?=some E→L listed' (0+j)=true→hasS E t=false:=fun j E h1 h2=>by
     cases h3:hasS E t with
     |false=>rfl
     |true=>exact absurd ⟨j,E,h1,h2,h3⟩ hx
    rw [pick_S_none _ 0 _ _ sB.dist hn,pick_S_none EsA 0 _ st0 sA.dist (fun j E hj hL=>?_)]
    ·rfl
    ·rw [Nat.zero_add]at hL
     rw [hsame j hL]at hj
     exact hn j E hj (hL2 j hL)
  ·show(if m=n then some (.box (cuL y.1))else getB (pickE' EsA 0 (L listed) st0) n)=_
   by_cases hx:∃(j:Nat) (E:List Entry),(EsB y.1 y.2)[j]?=some E∧L listed' (0+j)=true∧hasB E n=true
   ·obtain⟨j,E,h1,h2,h3⟩:=hx
    have hj:=hL' j E h1 (hasB_ne h3) h2
    rw [pick_B_some _ 0 _ _ sB.dist j E h1 h2 h3,if_neg (fun e=>by
     have:=sB.free E (List.mem_of_getElem? h1) n h3
     rw [←e]at this
     simp [getB]at this),pick_B_some _ 0 _ _ sA.dist j E (by rw [hsame j hj];exact h1) (by rw [Nat.zero_add];exact hj) h3]
   ·have hn:∀(j:Nat) E,(EsB y.1 y.2)[j]?=some E→L listed' (0+j)=true→hasB E n=false:=fun j E h1 h2=>by
     cases h3:hasB E n with
     |false=>rfl
     |true=>exact absurd ⟨j,E,h1,h2,h3⟩ hx
    rw [pick_B_none _ 0 _ _ sB.dist hn,pick_B_none EsA 0 _ st0 sA.dist (fun j E hj hL=>?_)]
    ·rfl
    ·rw [Nat.zero_add]at hL
     rw [hsame j hL]at hj
     exact hn j E hj (hL2 j hL)
 ·obtain⟨b1,b2,b3,b4,b5,b6,b7,b8⟩:=hB _ _ q.2.1 q.2.2
  rw [←(flowX_all h b1 b2 b3 b4).2]
  exact b8 a w hR
 ·simp only [hL0]
  simp
theorem WL.cast {ops:Array Oper}{r:List Oper}(e:st=st')(h:WL P γ0 w0 N ops r st' Q):WL P γ0 w0 N ops r st Q:=e▸h
end
section
variable {Γ:Models}{γ0:Nat→Option Nat}{w0:World}{N:Nat}{Q:Exit→Act→World→Prop}
theorem FlowX.opA {ops:Array Oper}{As:List (List Nat)}{st0 stA:St}{i d:Nat}{r rest:List Oper}{Es Es' F:List (List Entry)}{E:List Entry}{op:Op}{ty:TypeId}{pos:String}{after:Array Edge}
  (hA:pickE' Es 0 (inL (ancO As i)) st0=stA:=by simp (disch:=decide) only [pick_nil,pick_t,pick_f,List.cons_append,List.nil_append,Nat.reduceAdd];rfl) (hN:d<N:=by decide)
  (he:entO Tryz.prog Γ stA d op=some E:=by exact evxP) (ho:onlyS d E=true:=by rfl) (hE:Es++[E]=Es':=by simp only [List.cons_append,List.nil_append];rfl)
  (h:FlowX Tryz.prog Γ N ops As st0 (i+1) r Es' F rest):FlowX Tryz.prog Γ N ops As st0 i (⟨some d,op,ty,pos,after,none⟩::r) Es F rest:=
 .step rfl hN (by rw [hA];exact he) ho (hE▸h)
theorem FlowX.skA (x:Nat){ops:Array Oper}{As:List (List Nat)}{st0:St}{i:Nat}{o:Oper}{r rest:List Oper}{Es Es' F:List (List Entry)}(hk:(decide (i=x)||(ancO As i).contains x)=true:=by decide)(hE:Es++[[]]=Es':=by simp only [List.cons_append,List.nil_append];rfl)
  (h:FlowX Tryz.prog Γ N ops As st0 (i+1) r Es' F rest):FlowX Tryz.prog Γ N ops As st0 i (o::r) Es F rest:=.skip (hE▸h)
theorem FlowX.skB (x:Nat){ops:Array Oper}{As:List (List Nat)}{st0:St}{i:Nat}{o:Oper}{r rest:List Oper}{Es Es' F:List (List Entry)}(hk:decide (i=x)=true:=by decide)(hE:Es++[[]]=Es':=by simp only [List.cons_append,List.nil_append];rfl)
  (h:FlowX Tryz.prog Γ N ops As st0 (i+1) r Es' F rest):FlowX Tryz.prog Γ N ops As st0 i (o::r) Es F rest:=.skip (hE▸h)
theorem W.oneA (hΓ:GSound Tryz.prog Γ){l:List Oper}{st0 stX:St}{id:Nat}(p:Nat)(As:List (List Nat))(x:Nat){d f m t0:Nat}{xs:List Operand}{ts:Array TypeId}{ty:TypeId}{pos:String}{after:Array Edge}
  {A B:Type} {ok:A→Prop} {enc:A→List Arg} {rel:A→B→Prop} {res:A→B→Res} {EsA:List (List Entry)} {EsB:Cu→B→List (List Entry)} {restA rest:List Oper}
  (hf:Has Tryz.prog f) (hs:SoundCu Tryz.prog f ok enc rel res) (c:Cu) (hc:CuOk c) (a0:A) (hok:ok a0) (v:B→PV)
  (h:chk l p As=true) (hxp:x<p) (hoX:l[x]?=some ⟨some d,.call ⟨.value (.func f),(.tmp t0::xs).toArray,ts⟩,ty,pos,after,none⟩) (hN:d<N)
  (hfA:FlowX Tryz.prog Γ N l.toArray As st0 0 l [] EsA restA) (hpA:p+restA.length=l.length) (hdA:distB EsA=true) (hfrA:freeB st0 EsA=true) (hneA:neM As x 0 EsA=true)
  (hpk:pickE' EsA 0 (inL (ancO As x)) st0=stX) (ht:getS stX t0=one (.ptr m 0)) (hb:getB st0 m=some (.box (cuL c))) (ha:∀st,datasO st m xs=some (enc a0))
  (hst:∀c' b st,impE (.blk m (.box (cuL c'))::st) d (res a0 b)=.slot d (v b)::.blk m (.box (cuL c'))::st)
  (hB:∀c' b,CuTo c c'→rel a0 b→FlowX Tryz.prog Γ N l.toArray As (.slot d (v b)::.blk m (.box (cuL c'))::st0) 0 l [] (EsB c' b) rest∧p+rest.length=l.length∧distB (EsB c' b)=true∧freeB (.slot d (v b)::.blk m (.box (cuL c'))::st0) (EsB c' b)=true∧neB x 0 (EsB c' b)=true∧maskE As x 0 (EsB c' b)=EsA∧((EsB c' b).all fun E=>!hasS E d)=true∧WL Tryz.prog γ0 w0 N l.toArray rest (pickE' (EsB c' b) 0 (fun _=>true) (.slot d (v b)::.blk m (.box (cuL c'))::st0)) Q):
  W Tryz.prog γ0 w0 N st0 (.region id l.toArray true) Q:=
 W.oneC follows_mixed hΓ p x As hf hs c hc a0 hok h hxp hoX hN hfA hpA hdA hfrA hneA (by rw [hpk];exact ht) hb ha hst hB
end
end
section
set_option maxHeartbeats 4000000
theorem cVal_app (l:List TVal)(a b:Int):rowsF cVal l++[[.sc (.int .i64 a),.sc (.int .i64 b)]]=rowsF cVal (l++[(a,b)]):=by rw [←rowsF_app];rfl
theorem cInt_app (l:List Int)(a:Int):rowsF cInt l++[[.sc (.int .i64 a)]]=rowsF cInt (l++[a]):=by rw [←rowsF_app];rfl
end
section
def onlyB (n:Nat):St→Bool
 |[]=>true
 |.blk m _::r=>m==n&&onlyB n r
 |_::r=>onlyB n r
theorem onlyB_of {n:Nat}:∀{st:St} (_:onlyB n st=true) {m:Nat} {b:Blk} (_:getB st m=some b),m=n
 |[],_,m,b,h=>by cases h
 |.slot _ _::r,h,m,b,hb=>onlyB_of (st:=r) h hb
 |.blk k b0::r,h,m,b,hb=>by
  simp only [onlyB,Bool.and_eq_true,beq_iff_eq]at h
  simp only [getB]at hb
  split at hb
  ·rename_i e
   exact e.symm.trans h.1
  ·exact onlyB_of (st:=r) h.2 hb
 |.kill k::r,h,m,b,hb=>by
  simp only [getB]at hb
  split at hb
  ·cases hb
  ·obtain⟨b0,h1,_⟩:=oms hb
   exact onlyB_of (st:=r) h h1
section
variable {γ0:Nat→Option Nat}{w0:World}{N:Nat}{st:St}{Q:Exit→Act→World→Prop}{c:Code}{x:Exit}
theorem R.toNd {a:Act}{w:World}(h:R γ0 w0 N st a w){n e s:Nat}{rows:List (List Leaf)}(hb:getB st n=some (.arr .ft e s rows)):R γ0 w0 N (.blk n (.arr .nd e s rows)::st) a w:=by
 obtain⟨η,γ,hI⟩:=h
 exact⟨η,γ,hI.toNd hb⟩
theorem W.toNd (n:Nat){e s:Nat}{rows:List (List Leaf)}(hb:getB st n=some (.arr .ft e s rows):=by exact evsP)(h:W Tryz.prog γ0 w0 N (.blk n (.arr .nd e s rows)::st) c Q):W Tryz.prog γ0 w0 N st c Q:=fun a w hR=>h a w (hR.toNd hb)
theorem At.toNd (n:Nat){e s:Nat}{rows:List (List Leaf)}(hb:getB st n=some (.arr .ft e s rows):=by exact evsP)(h:At γ0 w0 N (.blk n (.arr .nd e s rows)::st) x Q):At γ0 w0 N st x Q:=fun a w hR=>h a w (hR.toNd hb)
end
end
end Go.Proofs.YtfgkfcfplodaoaaGreatDoor
