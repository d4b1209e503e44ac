/-
  Put together out of 6 texts.
-/
import Derived.Test.YtfgkfcfplodaoaaGreatDoorK11
import Derived.Test.YtfgkfcfplodaoaaGreatDoorK10
import Derived.Test.YtfgkfcfplodaoaaGreatDoorG20
import Derived.Test.YtfgkfcfplodaoaaGreatDoorK12
import Derived.Test.YtfgkfcfplodaoaaGreatDoorG21
import Derived.Test.YtfgkfcfplodaoaaGreatDoorK7
import Derived.Test.YtfgkfcfplodaoaaGreatDoorK2
import Derived.Test.YtfgkfcfplodaoaaGreatDoorG16
set_option linter.unusedSimpArgs false
set_option linter.unusedVariables false
set_option maxRecDepth 100000
set_option maxHeartbeats 16000000
namespace Go.Proofs.YtfgkfcfplodaoaaGreatDoor
open Go Go.RowKit
section
abbrev TDesk:=List TBlock×TLight×Bool
abbrev lDk (d:TDesk):List Leaf:=.sl (bkRows d.1)::(lLt d.2.1++[.sc (.bool d.2.2)])
def idsD (L:List TBlock):List ByteArray:=L.map fun b=>headId b.1
theorem lDk_inj {a b:TDesk}(h:lDk a=lDk b):a=b:=by
 obtain⟨a1,a2,a3⟩:=a
 obtain⟨b1,b2,b3⟩:=b
 simp only [lDk,List.cons.injEq]at h
 obtain⟨h1,h2⟩:=h
 have h3:=List.append_inj h2 rfl
 have h4:aLt a2=aLt b2:=by show Arg.val true _=_;rw [h3.1]
 have h5:a3=b3:=by simpa using h3.2
 have h6:aBS a1=aBS b1:=by
  injection h1 with h1
  show Arg.val false [.sl _]=_
  rw [h1]
 have h7:=aBS_inj a1 b1 (by rw [h6])
 rw [h7,aLt_inj h4,h5]
noncomputable def mIds:=mdl (fun d:TDesk=>d.1.length≤1048576) (fun d=>[.row (lDk d) 0]) (fun d=>rL 9 1 cStr (idsD d.1))
theorem mIds_eq (d:TDesk)(h:d.1.length≤1048576):mIds [.row (lDk d) 0]=some (rL 9 1 cStr (idsD d.1)):=mdl_eq (fun a b h=>lDk_inj (by injection h with h _;injection h)) d h
theorem bkRow_at (l:List TBlock)(k:Nat)(h:k<l.length):(bkRows l)[k]?=some (bkRow l[k]):=by
 unfold bkRows
 rw [List.getElem?_map,gsE h]
 rfl
theorem ids_s:Sound Tryz.prog 143 mIds:=by
 refine Sound.mdl Tryz.func143 rfl Tryz.ntmps143 ?_
 rintro⟨L,⟨⟨p,s⟩,st,⟨⟨h1,h2,h3,h4,h5,h6⟩,v⟩,⟨l,n⟩,⟨q,m⟩,now⟩,hs⟩ w hl
 refine⟨by simp,?_⟩
 replace hl:L.length≤1048576:=hl
 have hΓ:=env_cons (hsO Tryz.func144) headIdI_s env_nil
 have hlen:=bkRows_len L
 have hnil:rowsF cStr []=[]:=rfl
 refine zJ ?_
 refine W.loopA (fun k=>k≤L.length) (fun k:Nat=>[.slot 10 (one (.sl (bkRows L))),.slot 11 (vI L.length),.slot 12 (vI k),.slot 3 (one (.all 6)),.blk 6 (.arr .ft 9 1 (rowsF cStr (idsD (L.take k))))]) (fun k=>L.length-k) 0 (Nat.zero_le _) (h:=?_)
 rintro k hk
 have hkl:(idsD (L.take k)).length≤1048576:=by unfold idsD;rw [List.length_map,List.length_take];omega
 by_cases hlt:k<L.length
 ·have hrow:=bkRow_at L k hlt
  have c1:=mHeadId_eq L[k].1
  have hL:idsD (L.take (k+1))=idsD (L.take k)++[headId L[k].1]:=by
   unfold idsD
   rw [List.take_succ_eq_append_getElem hlt,List.map_append]
   rfl
  have happ:=cStr_appT (idsD (L.take k)) (headId L[k].1)
  rw [←hL]at happ
  clear hL
  generalize hL1:idsD (L.take (k+1))=L1 at*
  generalize idsD (L.take k)=L0 at*
  generalize L[k]=B at*
  obtain⟨⟨h,t,la,va,ne,da⟩,b1,b2,⟨ch,cr,ci,cs⟩⟩:=B
  generalize headId (h,t,la,va,ne,da)=x at*
  dsimp only [aHd,bkRow]at c1 hrow happ
  replace hL1:=Lib.hid hL1
  refine zR ?_
  refine At.roundA (k+1) (by omega) (by omega) (hs:=?_)
  rw [hL1.out]
  exact subP
 ·have ht:L.take k=L:=List.take_of_length_le (by omega)
  rw [ht]
  clear ht hkl
  refine zR ?_
  refine At.retA (by rw [Tryz.results143]) (he:=rfl)
end
section
theorem atP_no {l:List TPeer}{id:Int}:atP l id= -1↔∀p∈l,¬p.1=id:=by
 rcases idxP_cases' (fun p:TPeer=>decide (p.1=id)) l with⟨k,hk,h1,h2,_⟩|⟨h1,h2⟩
 ·have h3:atP l id=(k:Int):=h1
  constructor
  ·intro h
   omega
  ·intro h
   exact absurd (of_decide_eq_true h2) (h _ (List.getElem_mem hk))
 ·constructor
  ·intro _ p hp e
   obtain⟨j,hj,rfl⟩:=List.getElem_of_mem hp
   have:=h2 j hj
   simp only [decide_eq_false_iff_not]at this
   exact this e
  ·intro _
   exact h1
theorem tabOk_iff {t:TTab}:tabOk t↔(t.1.length≤6∧0≤t.2∧t.2≤1000000)∧(∀p∈t.1,peerOk p)∧(t.1.map fun p=>p.1).Pairwise fun a b=>¬a=b:=by
 constructor
 ·intro h
  refine⟨h.1,fun p hp=>?_,?_⟩
  ·obtain⟨j,hj,rfl⟩:=List.getElem_of_mem hp
   exact tabOk_at h hj
  ·rw [List.pairwise_map,List.pairwise_iff_getElem]
   intro i j hi hj hij e
   have:=tab_inj h hi hj e
   omega
 ·rintro⟨h1,h2,h3⟩
  rw [List.pairwise_map,List.pairwise_iff_getElem]at h3
  refine⟨h1,fun j hj=>⟨by rw [peerD_get hj];exact h2 _ (List.getElem_mem hj),?_⟩⟩
  rw [peerD_get hj]
  rcases atP_cases t.1 t.1[j].1 with⟨k,hk,e1,e2⟩|e
  ·rw [e1]
   rcases Nat.lt_trichotomy k j with h|h|h
   ·exact absurd e2 (h3 k j hk hj h)
   ·rw [h]
   ·exact absurd e2.symm (h3 j k hj hk h)
  ·exact absurd rfl (atP_no.1 e _ (List.getElem_mem hj))
theorem setT_ok {l:List TPeer}{n:Int}(h:tabOk (l,n)){k:Nat}(hk:k<l.length){b:Bool}{c d:Int}(hp:peerOk (l[k].1,b,c,d)):tabOk (l.set k (l[k].1,b,c,d),n):=by
 obtain⟨h1,h2,h3⟩:=tabOk_iff.1 h
 refine tabOk_iff.2 ⟨⟨by show(l.set k _).length≤6;rw [List.length_set];exact h1.1,h1.2⟩,fun p hm=>?_,?_⟩
 ·rcases List.mem_or_eq_of_mem_set hm with h'|rfl
  ·exact h2 p h'
  ·exact hp
 ·show((l.set k _).map fun p=>p.1).Pairwise _
  have e:(l.set k (l[k].1,b,c,d)).map (fun p=>p.1)=l.map (fun p=>p.1):=by
   rw [List.map_set]
   have e2:l[k].1=(l.map fun p=>p.1)[k]'(by rw [List.length_map];exact hk):=by rw [List.getElem_map]
   show(l.map fun p=>p.1).set k l[k].1=_
   rw [e2,List.set_getElem_self]
  rw [e]
  exact h3
theorem goodT_ok {t:TTab}(h:tabOk t)(id:Int):tabOk (goodT t id):=by
 obtain⟨l,n⟩:=t
 rcases atP_cases l id with⟨k,hk,e1,e2⟩|e
 ·rw [goodT_at hk e1 (a:=l[k].1) (b:=l[k].2.1) (c:=l[k].2.2.1) (d:=l[k].2.2.2) rfl]
  have hp:=tabOk_at h hk
  exact setT_ok h hk ⟨hp.1,hp.2.1,⟨by show(0:Int)≤0;omega,by show(0:Int)≤20;omega⟩⟩
 ·rw [goodT_no e]
  exact h
theorem lieT_ok {t:TTab}(h:tabOk t)(id:Int){now:Int}(hn:0≤now∧now≤1000000):tabOk (lieT t id now):=by
 obtain⟨l,n⟩:=t
 rcases atP_cases l id with⟨k,hk,e1,e2⟩|e
 ·rw [lieT_at hk e1 (a:=l[k].1) (b:=l[k].2.1) (c:=l[k].2.2.1) (d:=l[k].2.2.2) rfl]
  have hp:=tabOk_at h hk
  have hd:0≤l[k].2.2.2∧l[k].2.2.2≤20:=hp.2.2
  have hl:=lieN_in hd.1
  exact setT_ok h hk ⟨hp.1,⟨by dsimp only;omega,by dsimp only;omega⟩,⟨by dsimp only;omega,by dsimp only;omega⟩⟩
 ·rw [lieT_no e]
  exact h
theorem appT_ok {l:List TPeer}{n:Int}{id:Int}{pin:Bool}(h1:l.length≤5∧0≤n∧n≤1000000)(h2:∀p∈l,peerOk p)(h3:(l.map fun p:TPeer=>p.1).Pairwise fun a b=>¬a=b)(hi:1≤id∧id≤99)(hno:∀p∈l,¬p.1=id):tabOk (l++[(id,pin,0,0)],n):=by
 refine tabOk_iff.2 ⟨⟨?_,h1.2⟩,fun p hm=>?_,?_⟩
 ·show(l++[(id,pin,0,0)]).length≤6
  rw [List.length_append]
  simp only [List.length_cons,List.length_nil]
  omega
 ·rcases List.mem_append.1 hm with h|h
  ·exact h2 p h
  ·rw [List.mem_singleton.1 h]
   exact⟨hi,⟨by show(0:Int)≤0;omega,by show(0:Int)≤1000320;omega⟩,⟨by show(0:Int)≤0;omega,by show(0:Int)≤20;omega⟩⟩
 ·show((l++[(id,pin,0,0)]).map fun p:TPeer=>p.1).Pairwise _
  rw [List.map_append,List.pairwise_append]
  refine⟨h3,List.pairwise_singleton _ _,fun a ha b hb=>?_⟩
  obtain⟨p,hp,rfl⟩:=List.mem_map.1 ha
  have hb':b=id:=List.mem_singleton.1 hb
  rw [hb']
  exact hno p hp
theorem addT_ok {t:TTab}(h:tabOk t)(id:Int)(pin:Bool):tabOk (addT t id pin).1:=by
 obtain⟨l,n⟩:=t
 obtain⟨h1,h2,h3⟩:=tabOk_iff.1 h
 by_cases hn:0≤atP l id∨¬(1≤id∧id≤99)
 ·rw [addT_no (t:=(l,n)) hn]
  exact h
 ·have hi:1≤id∧id≤99:=Decidable.of_not_not fun q=>hn (.inr q)
  have ha:atP l id= -1:=by
   rcases atP_cases l id with⟨k,hk,e1,e2⟩|e
   ·exact absurd (.inl (by omega)) hn
   ·exact e
  by_cases hl:l.length<6
  ·rw [addT_room (t:=(l,n)) ha hi hl]
   show tabOk (l++[(id,pin,0,0)],n)
   exact appT_ok ⟨by omega,h1.2⟩ h2 h3 hi (atP_no.1 ha)
  ·rcases freeP_cases l with⟨k,hk,e1,_⟩|⟨e,_⟩
   ·rw [addT_swap (t:=(l,n)) ha hi hl e1]
    show tabOk (l.eraseIdx k++[(id,pin,0,0)],n)
    have hsub:(l.eraseIdx k).Sublist l:=List.eraseIdx_sublist l k
    refine appT_ok ⟨?_,h1.2⟩ (fun p hp=>h2 p (hsub.subset hp)) (h3.sublist (hsub.map _)) hi fun p hp=>atP_no.1 ha p (hsub.subset hp)
    rw [List.length_eraseIdx_of_lt hk]
    have:l.length≤6:=h1.1
    omega
   ·rw [addT_full (t:=(l,n)) ha hi hl e]
    exact h
def cliOk (x:TLight):Prop:=lightOk x∧(hdD x.2.2.2.1.1 0).1=1∧x.2.2.2.1.1.length≤12
theorem cli_at {l:List THeader}{n:Int}(h:storeOk (l,n))(h0:(hdD l 0).1=1):∀j,j<l.length→(hdD l j).1=((j+1:Nat):Int)
 |0,_=>h0
 |j+1,hj=>by
  have h1:=cli_at h h0 j (by omega)
  have h2:=((h.2 (j+1) hj).2 (by omega)).1
  rw [h2]
  show(hdD l j).1+1=_
  rw [h1]
  omega
theorem cli_anchor {x:TLight}(h:cliOk x):x.2.2.1.1.1=(x.2.2.2.1.1.length:Int):=by
 obtain⟨hl,h0,_⟩:=h
 obtain⟨p,st,an,⟨l,n⟩,tb,now⟩:=x
 obtain⟨_,_,hs,_,_,_,hp,he⟩:=hl
 dsimp only at hs h0 hp he⊢
 rw [←he,cli_at (n:=n) hs h0 _ (by omega)]
 omega
theorem cli_peers {x:TLight}(h:cliOk x){t:TTab}(ht:tabOk t):cliOk (x.1,x.2.1,x.2.2.1,x.2.2.2.1,t,x.2.2.2.2.2):=by
 obtain⟨⟨a1,a2,a3,a4,a5,a6,a7,a8⟩,b,c⟩:=h
 exact⟨⟨a1,a2,a3,ht,a5,a6,a7,a8⟩,b,c⟩
theorem cli_new {t:TTrust}{b:TBlock}{now:Int}(h:newB t b now=true)(hb:b.1.1=1):cliOk (newX t b now):=by
 unfold newB at h
 rw [Bool.and_eq_true,Bool.and_eq_true]at h
 exact⟨of_decide_eq_true h.2.1,hb,by show [b.1].length≤12;simp⟩
theorem cli_tick {x:TLight}(h:cliOk x)(d:Int):cliOk (tickL x d):=by
 unfold tickL
 split
 ·rename_i hb
  unfold tickB at hb
  rw [Bool.and_eq_true]at hb
  have h2:=of_decide_eq_true hb.2
  obtain⟨⟨a1,a2,a3,a4,a5,a6,a7,a8⟩,b,c⟩:=h
  refine⟨⟨a1,a2,a3,a4,?_,h2,a7,a8⟩,b,c⟩
  show 1≤(if _ then(2:Int)else x.2.1)∧(if _ then(2:Int)else x.2.1)≤2
  split
  ·omega
  ·exact a5
 ·exact h
theorem ver_zero {t:TTrust}{a:TAnchor}{h:THeader}{n:List TVal}{c:TCommit}{now:Int}(hv:verifyC t a h n c now=0):
  headOk h∧h.1=a.1.1+1∧a.1.2.1<h.2.1∧h.2.2.1=headId a.1∧h.2.2.2.1=a.1.2.2.2.2.1∧h.2.2.2.2.1=vhash n:=by
 unfold verifyC at hv
 split at hv
 ·omega
 rename_i h1
 split at hv
 ·omega
 split at hv
 ·omega
 split at hv
 ·omega
 rename_i h4
 split at hv
 ·omega
 rename_i h5
 split at hv
 ·omega
 rename_i h6
 split at hv
 ·omega
 rename_i h7
 split at hv
 ·omega
 rename_i h8
 exact⟨(Decidable.of_not_not h1).2.2.1,by omega,by omega,Classical.not_not.1 h6,Classical.not_not.1 h7,Classical.not_not.1 h8⟩
theorem hdD_app {l:List THeader}{h:THeader}{j:Nat}(hj:j<l.length):hdD (l++[h]) j=hdD l j:=by
 rw [hdD_get (show j<(l++[h]).length by rw [List.length_append];omega),hdD_get hj,List.getElem_append_left hj]
theorem hdD_last {l:List THeader}{h:THeader}:hdD (l++[h]) l.length=h:=by
 rw [hdD_get (show l.length<(l++[h]).length by rw [List.length_append];simp),List.getElem_append_right (Nat.le_refl _)]
 simp
theorem addSt_yes {l:List THeader}{n:Int}{h:THeader}(hs:storeOk (l,n))(hl:0<l.length)(hl20:l.length<20)(hh:headOk h)(hk:linkOk (hdD l (l.length-1)) h):addSt (l,n) h=((l++[h],n),true):=by
 unfold addSt
 refine if_pos (decide_eq_true ?_)
 have hlen:(l++[h]).length=l.length+1:=by rw [List.length_append];rfl
 have hn:0≤n∧n≤(l.length:Int):=hs.1.2
 refine⟨⟨by show(l++[h]).length≤20;omega,hn.1,by show n≤((l++[h]).length:Int);omega⟩,fun j hj=>?_⟩
 show hdAt (l++[h]) j
 replace hj:j<(l++[h]).length:=hj
 rcases Nat.lt_or_ge j l.length with h1|h1
 ·have h2:=hs.2 j h1
  unfold hdAt at h2⊢
  rw [hdD_app h1]
  refine⟨h2.1,fun h3=>?_⟩
  rw [hdD_app (show j-1<l.length by omega)]
  exact h2.2 h3
 ·have h2:j=l.length:=by omega
  subst h2
  unfold hdAt
  rw [hdD_last]
  refine⟨hh,fun h3=>?_⟩
  rw [hdD_app (show l.length-1<l.length by omega)]
  exact hk
theorem cli_feed {x:TLight}(h:cliOk x)(id:Int){b:TBlock}(hb:b.1.1≤12):cliOk (feedX x id b):=by
 unfold feedX
 split
 ·exact h
 split
 ·rename_i hv
  have hc:=cli_anchor h
  obtain⟨⟨a1,a2,a3,a4,a5,a6,a7,a8⟩,b0,c⟩:=h
  obtain⟨p,st,an,⟨l,n⟩,tb,now⟩:=x
  dsimp only at a1 a2 a3 a4 a5 a6 a7 a8 b0 c hc
  obtain⟨v1,v2,v3,v4,v5,v6⟩:=ver_zero hv
  have hadd:addSt (l,n) b.1=((l++[b.1],n),true):=addSt_yes a3 a7 (by omega) v1 ⟨by rw [a8];exact v2,by rw [a8];exact v4,by rw [a8];exact v3,by rw [a8];exact v5⟩
  have hlen:(l++[b.1]).length=l.length+1:=by rw [List.length_append];rfl
  have hst:storeOk (l++[b.1],n):=by
   have:=addSt_ok (h:=b.1) a3
   rw [hadd]at this
   exact this
  have hst2:storeOk (l++[b.1],((l++[b.1]).length:Int)):=⟨⟨hst.1.1,by show(0:Int)≤((l++[b.1]).length:Int);omega,Int.le_refl _⟩,hst.2⟩
  have he:feedY (p,st,an,(l,n),tb,now) id b=(p,st,(b.1,b.2.2.1),(l++[b.1],((l++[b.1]).length:Int)),goodT tb id,now):=by
   unfold feedY
   dsimp only
   rw [hadd]
  rw [he]
  have v2':b.1.1=an.1.1+1:=v2
  have hvo:valsOk b.2.2.1:=by
   refine Decidable.of_not_not fun q=>?_
   have v6':b.1.2.2.2.2.1=vhash b.2.2.1:=v6
   rw [vhash_no q]at v6'
   have h8:(b.1.2.2.2.2.1.size:Int)=8:=v1.2.2.2.1
   rw [v6']at h8
   exact absurd h8 (by decide)
  refine⟨⟨a1,⟨v1,hvo,v6.symm⟩,hst2,goodT_ok a4 id,a5,a6,by show 0<(l++[b.1]).length;omega,?_⟩,?_,by show(l++[b.1]).length≤12;omega⟩
  ·show hdD (l++[b.1]) ((l++[b.1]).length-1)=b.1
   rw [hlen]
   exact hdD_last
  ·show(hdD (l++[b.1]) 0).1=1
   rw [hdD_app a7]
   exact b0
 split
 ·exact cli_peers h (lieT_ok h.1.2.2.2.1 id h.1.2.2.2.2.2.1)
 ·exact h
def chOk (L:List TBlock):Prop:=L.length≤12∧∀j,(h:j<L.length)→okBkS L[j]∧L[j].1.1=((j+1:Nat):Int)
def deskOk (d:TDesk):Prop:=chOk d.1∧(d.2.2=true→cliOk d.2.1)
theorem chOk_nil:chOk []:=⟨by simp,fun j h=>absurd h (by simp)⟩
theorem chOk_cn (s:ByteArray){n:Nat}(h:n≤12):chOk (cnL s n):=by
 refine⟨by rw [cnL_len];exact h,fun j hj=>?_⟩
 have hj':j<n:=by rwa [cnL_len]at hj
 have e:(cnL s n)[j]=cnB s j:=by
  have:=cnL_get s hj'
  rw [gsE hj]at this
  injection this
 obtain⟨h1,h2,h3⟩:=(cnL_ok s h).2 (cnL s n)[j] (List.getElem_mem hj)
 rw [e]at h1 h2 h3⊢
 exact⟨⟨by omega,by omega,by omega⟩,rfl⟩
theorem chOk_of (s:ByteArray)(n:Int):chOk (chainOf s n):=by
 unfold chainOf
 split
 ·exact chOk_cn s (by omega)
 ·exact chOk_nil
theorem bkAt_ch {L:List TBlock}(h:chOk L)(n:Int):(∃k,k<L.length∧n=((k+1:Nat):Int)∧bkAt L n=(k:Int))∨((n<1∨(L.length:Int)<n)∧bkAt L n= -1):=by
 rcases idxP_cases' (bkP n) L with⟨k,hk,h1,h2,_⟩|⟨h1,h2⟩
 ·have h3:L[k].1.1=n:=of_decide_eq_true h2
  rw [(h.2 k hk).2]at h3
  exact .inl ⟨k,hk,h3.symm,h1⟩
 ·refine .inr ⟨?_,h1⟩
  by_cases q:n<1∨(L.length:Int)<n
  ·exact q
  ·have hk:n.toNat-1<L.length:=by omega
   have h3:=h2 (n.toNat-1) hk
   have h4:=(h.2 (n.toNat-1) hk).2
   have h5:¬L[n.toNat-1].1.1=n:=of_decide_eq_false h3
   rw [h4]at h5
   omega
end
section
def rootW:ByteArray:={data:= #[114,111,111,116]}
def tipW:ByteArray:={data:= #[116,105,112]}
def bannedW:ByteArray:={data:= #[98,97,110,110,101,100]}
def noneW:ByteArray:={data:= #[110,111,110,101]}
def whatW:ByteArray:={data:= #[119,104,97,116]}
def spW:ByteArray:={data:= #[32]}
def decT (n:Int):ByteArray:=bsS (decZ n)
def joinS (l:List Int):Nat→ByteArray
 |0=>ByteArray.empty
 |k+1=>(if 0<k then joinS l k++spW else joinS l k)++decT (l.getD k 0)
def tipD (x:TLight):ByteArray:=decT x.2.2.1.1.1++spW++hexS (headId x.2.2.1.1)
def banD (x:TLight):ByteArray:=joinS (banL x.2.2.2.2.1.1 x.2.2.2.2.2) (banL x.2.2.2.2.1.1 x.2.2.2.2.2).length
def bareD (d:TDesk)(w:ByteArray):ByteArray:=
 if w=rootW then hexS (tree (idsD d.1))
 else if w=tipW then(if d.2.2=true then tipD d.2.1 else noneW)
 else if w=bannedW then(if d.2.2=true then banD d.2.1 else noneW)
 else whatW
theorem decT_size (n:Int):(decT n).size≤11:=by
 unfold decT
 rw [bsS_size]
 exact(decZ_len n).2
theorem hexS_size (s:ByteArray):(hexS s).size=2*s.size:=by
 unfold hexS
 rw [bsS_size,hexK_len]
theorem joinS_size (l:List Int):∀k,(joinS l k).size≤12*k
 |0=>Nat.le_refl _
 |k+1=>by
  have h1:=joinS_size l k
  have h2:=decT_size (l.getD k 0)
  have h3:spW.size=1:=rfl
  show((if 0<k then joinS l k++spW else joinS l k)++decT (l.getD k 0)).size≤_
  rw [ByteArray.size_append]
  split
  ·rw [ByteArray.size_append]
   omega
  ·omega
theorem sp_size:(⟨#[32]⟩:ByteArray).size≤1:=Nat.le_refl _
theorem emp_size:ByteArray.empty.size≤0:=Nat.le_refl _
theorem app_size {a b:ByteArray}{m n k:Nat}(h1:a.size≤m)(h2:b.size≤n)(h:m+n≤k):(a++b).size≤k:=by
 rw [ByteArray.size_append]
 omega
theorem bare_ways (d:TDesk)(w:ByteArray):
  (decide (w=(⟨#[114,111,111,116]⟩:ByteArray))=true∧bareD d w=hexS (tree (idsD d.1)))∨
  (decide (w=(⟨#[114,111,111,116]⟩:ByteArray))=false∧decide (w=(⟨#[116,105,112]⟩:ByteArray))=true∧bareD d w=if d.2.2=true then tipD d.2.1 else noneW)∨
  (decide (w=(⟨#[114,111,111,116]⟩:ByteArray))=false∧decide (w=(⟨#[116,105,112]⟩:ByteArray))=false∧decide (w=(⟨#[98,97,110,110,101,100]⟩:ByteArray))=true∧bareD d w=if d.2.2=true then banD d.2.1 else noneW)∨
  (decide (w=(⟨#[114,111,111,116]⟩:ByteArray))=false∧decide (w=(⟨#[116,105,112]⟩:ByteArray))=false∧decide (w=(⟨#[98,97,110,110,101,100]⟩:ByteArray))=false∧bareD d w=whatW):=by
 by_cases h1:w=rootW
 ·exact .inl ⟨decide_eq_true h1,if_pos h1⟩
 by_cases h2:w=tipW
 ·exact .inr (.inl ⟨decide_eq_false h1,decide_eq_true h2,(if_neg h1).trans (if_pos h2)⟩)
 by_cases h3:w=bannedW
 ·exact .inr (.inr (.inl ⟨decide_eq_false h1,decide_eq_false h2,decide_eq_true h3,(if_neg h1).trans ((if_neg h2).trans (if_pos h3))⟩))
 ·exact .inr (.inr (.inr ⟨decide_eq_false h1,decide_eq_false h2,decide_eq_false h3,(if_neg h1).trans ((if_neg h2).trans (if_neg h3))⟩))
abbrev encBare (x:TDesk×ByteArray):List Arg:=[.row (lDk x.1) 0,aS x.2]
theorem encBare_inj:∀x y,encBare x=encBare y→x=y:=by
 rintro⟨d,a⟩ ⟨e,b⟩ h
 have h1:lDk d=lDk e:=by injection h with h _;injection h
 have h2:aS a=aS b:=by injection h with _ h;injection h
 have h3:a=b:=by simpa using h2
 rw [lDk_inj h1,h3]
noncomputable def mBare:=mdl (fun x:TDesk×ByteArray=>deskOk x.1) encBare (fun x=>rS (bareD x.1 x.2))
theorem mBare_eq (d:TDesk)(w:ByteArray)(h:deskOk d):mBare [.row (lDk d) 0,aS w]=some (rS (bareD d w)):=mdl_eq encBare_inj (d,w) h
theorem idsD_ok {L:List TBlock}(h:L.length≤12):okT (idsD L):=⟨by unfold idsD;rw [List.length_map];omega,fun x hx=>by
 unfold idsD at hx
 obtain⟨b,_,rfl⟩:=List.mem_map.1 hx
 have:=headId_size b.1
 omega⟩
theorem bare_s:Sound Tryz.prog 103 mBare:=by
 refine Sound.mdl Tryz.func103 rfl Tryz.ntmps103 ?_
 rintro⟨⟨L,⟨⟨p,s⟩,st,⟨⟨h1,h2,h3,h4,h5,h6⟩,v⟩,⟨l,n⟩,⟨q,m⟩,now⟩,hs⟩,wd⟩ w hx
 refine⟨by simp,?_⟩
 replace hx:deskOk (L,((p,s),st,((h1,h2,h3,h4,h5,h6),v),(l,n),(q,m),now),hs):=hx
 have hΓ:=env_cons (hsO Tryz.func143) ids_s (env_cons (hsO Tryz.func142) treeI_s (env_cons (hsO Tryz.func141) hexI_s (env_cons (hsO Tryz.func101) decZI_s (env_cons (hsO Tryz.func144) headIdI_s (env_cons (hsO Tryz.func145) banI_s env_nil)))))
 have hl12:L.length≤12:=hx.1.1
 have hcl:hs=true→cliOk ((p,s),st,((h1,h2,h3,h4,h5,h6),v),(l,n),(q,m),now):=hx.2
 rcases bare_ways (L,((p,s),st,((h1,h2,h3,h4,h5,h6),v),(l,n),(q,m),now),hs) wd with⟨t1,hb⟩|⟨t1,t2,hb⟩|⟨t1,t2,t3,hb⟩|⟨t1,t2,t3,hb⟩
 ·have c1:=mIds_eq (L,((p,s),st,((h1,h2,h3,h4,h5,h6),v),(l,n),(q,m),now),hs) (show L.length≤_ by omega)
  have hid:=idsD_ok hl12
  have c2:=mTree_eq (idsD L) hid
  have ht:=tree_size (idsD L)
  have c3:=mHex_eq (tree (idsD L)) (by omega)
  dsimp only at c1 hb
  replace hb:=Lib.hid hb
  clear hx hcl hid
  generalize idsD L=I at*
  generalize tree I=T at*
  generalize hexS T=X at*
  refine zJ ?_
  refine At.retA (by rw [Tryz.results103]) (he:=?_)
  rw [hb.out]
 ·cases hs with
  |false=>
   replace hb:=hb.trans (if_neg Bool.false_ne_true)
   replace hb:=Lib.hid hb
   clear hx hcl
   refine zJ ?_
   refine At.retA (by rw [Tryz.results103]) (he:=?_)
   rw [hb.out]
   rfl
  |true=>
   replace hb:=hb.trans (if_pos rfl)
   have hc:=hcl rfl
   have hh:headOk (h1,h2,h3,h4,h5,h6):=hc.1.2.1.1
   have hh1:1≤h1∧h1≤1000000:=hh.1
   have c1:=mDecZ_eq h1 ⟨by omega,by omega⟩
   have c2:=mHeadId_eq (h1,h2,h3,h4,h5,h6)
   have hz:=headId_size (h1,h2,h3,h4,h5,h6)
   have c3:=mHex_eq (headId (h1,h2,h3,h4,h5,h6)) (by omega)
   have hT:tipD ((p,s),st,((h1,h2,h3,h4,h5,h6),v),(l,n),(q,m),now)=bsS (decZ h1)++(⟨#[32]⟩:ByteArray)++hexS (headId (h1,h2,h3,h4,h5,h6)):=rfl
   dsimp only at hb
   rw [hT]at hb
   clear hx hcl hc hh hh1 hT
   dsimp only [aHd]at c2
   have hD:(bsS (decZ h1)).size≤11:=decT_size h1
   have hX:(hexS (headId (h1,h2,h3,h4,h5,h6))).size≤16:=by rw [hexS_size];omega
   have hsp:=sp_size
   have hDs:(bsS (decZ h1)++(⟨#[32]⟩:ByteArray)).size≤12:=app_size hD sp_size (Nat.le_refl _)
   replace hb:=Lib.hid hb
   generalize headId (h1,h2,h3,h4,h5,h6)=I at*
   generalize bsS (decZ h1)=D at*
   generalize hexS I=X at*
   refine zJ ?_
   refine W.drawB hΓ 9 [[],[0],[0,1],[0,1,2],[],[0,1,2,4],[0,1,2,4,5],[0,1,2,3,4,5,6],[0,1,2,3,4,5,6,7]] (Es:=?Es10) (rest:=?rest10) (st1:=?st110) ?_
   refine zQ ?_
   refine At.retA (by rw [Tryz.results103]) (he:=?_)
   rw [hb.out]
 ·cases hs with
  |false=>
   replace hb:=hb.trans (if_neg Bool.false_ne_true)
   replace hb:=Lib.hid hb
   clear hx hcl
   refine zJ ?_
   refine At.retA (by rw [Tryz.results103]) (he:=?_)
   rw [hb.out]
   rfl
  |true=>
   replace hb:=hb.trans (if_pos rfl)
   have hc:=hcl rfl
   have htb:tabOk (q,m):=hc.1.2.2.2.1
   have hnow:0≤now∧now≤1000000:=hc.1.2.2.2.2.2.1
   have c1:=mBan_eq (q,m) now htb hnow
   have hbl:(banL q now).length≤99:=banK_len q now 99
   have hin:∀k,(h:k<(banL q now).length)→1≤(banL q now)[k]∧(banL q now)[k]≤99:=fun k h=>(banL_mem.1 (List.getElem_mem h)).1
   have hT:banD ((p,s),st,((h1,h2,h3,h4,h5,h6),v),(l,n),(q,m),now)=joinS (banL q now) (banL q now).length:=rfl
   dsimp only at hb
   rw [hT]at hb
   replace hb:=Lib.hid hb
   clear hx hcl hc hT htb
   generalize banL q now=B at*
   refine zJ ?_
   refine W.drawB hΓ 13 [[],[0],[0,1],[0,1,2],[0,1,2,3],[],[5],[5,6],[5,6,7],[5,6,7,8],[0,1,2,3,4,5,6,7,8,9],[0,1,2,3,4,5,6,7,8,9,10],[]] (Es:=?Es18) (rest:=?rest18) (st1:=?st118) ?_
   refine zQ ?_
   refine W.loopA (fun k=>k≤B.length) (fun k:Nat=>[.slot 54 (one (.all 54)),.blk 54 (.arr .ft 3 1 (rowsF cInt B)),.slot 55 (vI B.length),.slot 56 (vI k),.slot 6 (one (.sc (.string (joinS B k))))]) (fun k=>B.length-k) 0 (Nat.zero_le _) (h:=?_)
   have hlen:=rowsF_len cInt B
   rintro k hk
   by_cases hlt:k<B.length
   ·have hrow:=rowsF_get cInt B k hlt
    have hi:=hin k hlt
    have c2:=mDecZ_eq B[k] ⟨by omega,by omega⟩
    have hg:B.getD k 0=B[k]:=by rw [List.getD_eq_getElem?_getD,gsE hlt];rfl
    rcases Nat.eq_zero_or_pos k with rfl|hp
    ·have hJ:joinS B (0+1)=ByteArray.empty++bsS (decZ B[0]):=by
      show ByteArray.empty++decT (B.getD 0 0)=_
      rw [hg]
      rfl
     have hJ0:joinS B 0=ByteArray.empty:=rfl
     have hD:(bsS (decZ B[0])).size≤11:=decT_size B[0]
     have hes:=emp_size
     rw [hJ0]
     clear hin c1 hg
     replace hJ:=Lib.hid hJ
     generalize bsS (decZ B[0])=D at*
     generalize B[0]=x at*
     dsimp only [cInt,List.map_cons,List.map_nil]at hrow
     refine zR ?_
     refine At.roundA (0+1) (by omega) (by omega) (hs:=?_)
     rw [hJ.out]
     exact subP
    ·have hJ:joinS B (k+1)=(joinS B k++(⟨#[32]⟩:ByteArray))++bsS (decZ B[k]):=by
      show(if 0<k then joinS B k++spW else joinS B k)++decT (B.getD k 0)=_
      rw [if_pos hp,hg]
      rfl
     have hD:(bsS (decZ B[k])).size≤11:=decT_size B[k]
     have hJs:(joinS B k).size≤1188:=Nat.le_trans (joinS_size B k) (by omega)
     have hsp:=sp_size
     have hJt:(joinS B k++(⟨#[32]⟩:ByteArray)).size≤1189:=app_size hJs sp_size (Nat.le_refl _)
     clear hin c1 hg
     generalize joinS B k=J0 at*
     replace hJ:=Lib.hid hJ
     generalize bsS (decZ B[k])=D at*
     generalize B[k]=x at*
     dsimp only [cInt,List.map_cons,List.map_nil]at hrow
     refine zR ?_
     refine At.roundA (k+1) (by omega) (by omega) (hs:=?_)
     rw [hJ.out]
     exact subP
   ·have ht:k=B.length:=by omega
    subst ht
    clear hin c1
    refine zR ?_
    refine At.retA (by rw [Tryz.results103]) (he:=?_)
    rw [hb.out]
 ·replace hb:=Lib.hid hb
  clear hx hcl
  refine zJ ?_
  refine At.retA (by rw [Tryz.results103]) (he:=?_)
  rw [hb.out]
  rfl
end
section
def proofW:ByteArray:={data:= #[112,114,111,111,102]}
def peerW:ByteArray:={data:= #[112,101,101,114]}
def tickW:ByteArray:={data:= #[116,105,99,107]}
def seenW:ByteArray:={data:= #[115,101,101,110]}
def expW:ByteArray:={data:= #[101,120,112,105,114,101,100]}
def folW:ByteArray:={data:= #[102,111,108,108,111,119]}
def putP (x:TLight)(t:TTab):TLight:=(x.1,x.2.1,x.2.2.1,x.2.2.2.1,t,x.2.2.2.2.2)
def proofD (d:TDesk)(n:Int):ByteArray:=if 0≤bkAt d.1 n then decT (pathL (bkAt d.1 n).toNat (idsD d.1)).length else noneW
def peerX (x:TLight)(n:Int):TLight:=putP x (addT x.2.2.2.2.1 n false).1
def peerT (x:TLight)(n:Int):ByteArray:=if(addT x.2.2.2.2.1 n false).2=true then okS else noS
def tickT (x:TLight)(n:Int):ByteArray:=if tickB x n=true then(if(tickL x n).2.1=2 then expW else folW)else noS
noncomputable def seenT (x:TLight)(n:Int):ByteArray:=if(getHd x.2.2.2.1 n).2=true then hexS (headId (getHd x.2.2.2.1 n).1)else noneW
noncomputable def oneD (d:TDesk)(w:ByteArray)(n:Int):TDesk×ByteArray:=
 if w=proofW then(d,proofD d n)
 else if w=peerW then(if d.2.2=true then((d.1,peerX d.2.1 n,true),peerT d.2.1 n)else(d,noneW))
 else if w=tickW then(if d.2.2=true then((d.1,tickL d.2.1 n,true),tickT d.2.1 n)else(d,noneW))
 else if w=seenW then(d,if d.2.2=true then seenT d.2.1 n else noneW)
 else(d,whatW)
theorem one_ways (d:TDesk)(w:ByteArray)(n:Int):
  (decide (w=(⟨#[112,114,111,111,102]⟩:ByteArray))=true∧oneD d w n=(d,proofD d n))∨
  (decide (w=(⟨#[112,114,111,111,102]⟩:ByteArray))=false∧decide (w=(⟨#[112,101,101,114]⟩:ByteArray))=true∧oneD d w n=if d.2.2=true then((d.1,peerX d.2.1 n,true),peerT d.2.1 n)else(d,noneW))∨
  (decide (w=(⟨#[112,114,111,111,102]⟩:ByteArray))=false∧decide (w=(⟨#[112,101,101,114]⟩:ByteArray))=false∧decide (w=(⟨#[116,105,99,107]⟩:ByteArray))=true∧oneD d w n=if d.2.2=true then((d.1,tickL d.2.1 n,true),tickT d.2.1 n)else(d,noneW))∨
  (decide (w=(⟨#[112,114,111,111,102]⟩:ByteArray))=false∧decide (w=(⟨#[112,101,101,114]⟩:ByteArray))=false∧decide (w=(⟨#[116,105,99,107]⟩:ByteArray))=false∧decide (w=(⟨#[115,101,101,110]⟩:ByteArray))=true∧oneD d w n=(d,if d.2.2=true then seenT d.2.1 n else noneW))∨
  (decide (w=(⟨#[112,114,111,111,102]⟩:ByteArray))=false∧decide (w=(⟨#[112,101,101,114]⟩:ByteArray))=false∧decide (w=(⟨#[116,105,99,107]⟩:ByteArray))=false∧decide (w=(⟨#[115,101,101,110]⟩:ByteArray))=false∧oneD d w n=(d,whatW)):=by
 by_cases h1:w=proofW
 ·exact .inl ⟨decide_eq_true h1,if_pos h1⟩
 by_cases h2:w=peerW
 ·exact .inr (.inl ⟨decide_eq_false h1,decide_eq_true h2,(if_neg h1).trans (if_pos h2)⟩)
 by_cases h3:w=tickW
 ·exact .inr (.inr (.inl ⟨decide_eq_false h1,decide_eq_false h2,decide_eq_true h3,(if_neg h1).trans ((if_neg h2).trans (if_pos h3))⟩))
 by_cases h4:w=seenW
 ·exact .inr (.inr (.inr (.inl ⟨decide_eq_false h1,decide_eq_false h2,decide_eq_false h3,decide_eq_true h4,(if_neg h1).trans ((if_neg h2).trans ((if_neg h3).trans (if_pos h4)))⟩)))
 ·exact .inr (.inr (.inr (.inr ⟨decide_eq_false h1,decide_eq_false h2,decide_eq_false h3,decide_eq_false h4,(if_neg h1).trans ((if_neg h2).trans ((if_neg h3).trans (if_neg h4)))⟩)))
theorem oneD_ok {d:TDesk}(h:deskOk d)(w:ByteArray)(n:Int):deskOk (oneD d w n).1:=by
 rcases one_ways d w n with⟨-,e⟩|⟨-,-,e⟩|⟨-,-,-,e⟩|⟨-,-,-,-,e⟩|⟨-,-,-,-,e⟩<;>rw [e]
 ·exact h
 ·split
  ·rename_i hs
   exact⟨h.1,fun _=>cli_peers (h.2 hs) (addT_ok (h.2 hs).1.2.2.2.1 n false)⟩
  ·exact h
 ·split
  ·rename_i hs
   exact⟨h.1,fun _=>cli_tick (h.2 hs) n⟩
  ·exact h
 ·exact h
 ·exact h
theorem idsD_len (L:List TBlock):(idsD L).length=L.length:=by unfold idsD;rw [List.length_map]
abbrev TOne:=TDesk×ByteArray×Int
theorem one_s:SoundDk Tryz.prog 104 (fun x:TOne=>deskOk x.1) (fun x=>lDk x.1) (fun x=>[aS x.2.1,aI x.2.2]) (fun x=>lDk (oneD x.1 x.2.1 x.2.2).1) (fun x=>.string (oneD x.1 x.2.1 x.2.2).2):=by
 refine SoundDk.of Tryz.func104 rfl Tryz.ntmps104 ?_
 rintro⟨⟨L,⟨⟨p,s⟩,st,⟨⟨h1,h2,h3,h4,h5,h6⟩,v⟩,⟨l,n⟩,⟨q,m⟩,now⟩,hs⟩,wd,nn⟩ b w hx hB
 refine⟨by simp,?_⟩
 simp only [initC,List.map_cons,List.map_nil,toPL]
 simp only [initS,argPV,Nat.reduceAdd,lDk,lLt,List.cons_append,List.nil_append,List.map_cons,List.map_nil,toPL]
 replace hx:deskOk (L,((p,s),st,((h1,h2,h3,h4,h5,h6),v),(l,n),(q,m),now),hs):=hx
 have hΓ:=env_cons (hsO Tryz.func143) ids_s (env_cons (hsO Tryz.func59) bkAt_s (env_cons (hsO Tryz.func146) tpathI_s (env_cons (hsO Tryz.func101) decZI_s (env_cons (hsO Tryz.func147) addPI_s (env_cons (hsO Tryz.func148) okay_s (env_cons (hsO Tryz.func149) tickI_s (env_cons (hsO Tryz.func150) seenI_s (env_cons (hsO Tryz.func144) headIdI_s (env_cons (hsO Tryz.func141) hexI_s env_nil)))))))))
 have hl12:L.length≤12:=hx.1.1
 have hcl:hs=true→cliOk ((p,s),st,((h1,h2,h3,h4,h5,h6),v),(l,n),(q,m),now):=hx.2
 have hways:=one_ways (L,((p,s),st,((h1,h2,h3,h4,h5,h6),v),(l,n),(q,m),now),hs) wd nn
 rcases hways with⟨t1,hb⟩|⟨t1,t2,hb⟩|⟨t1,t2,t3,hb⟩|⟨t1,t2,t3,t4,hb⟩|⟨t1,t2,t3,t4,hb⟩
 ·have c1:=mBkAt_eq L nn (by omega)
  have hP:proofD (L,((p,s),st,((h1,h2,h3,h4,h5,h6),v),(l,n),(q,m),now),hs) nn=if 0≤bkAt L nn then decT (pathL (bkAt L nn).toNat (idsD L)).length else noneW:=rfl
  have hw:=bkAt_ch hx.1 nn
  dsimp only at hw
  rcases hw with⟨k,hk,-,e⟩|⟨-,e⟩
  ·rw [e]at c1 hP
   rw [if_pos (by omega),Int.toNat_natCast]at hP
   have c2:=mIds_eq (L,((p,s),st,((h1,h2,h3,h4,h5,h6),v),(l,n),(q,m),now),hs) (show L.length≤_ by omega)
   have hid:=idsD_ok hl12
   have hidl:=idsD_len L
   have c3:=mPa_eq (idsD L) k ⟨⟨by omega,by omega⟩,hid.2⟩ (by omega)
   have hpl:=pathL_len _ k (idsD L) rfl
   have c4:=mDecZ_eq ((pathL k (idsD L)).length:Int) ⟨by omega,by omega⟩
   have hrl:=rowsF_len cStr (pathL k (idsD L))
   simp only [lDk,lLt,List.cons_append,List.nil_append]at c2
   rw [hP]at hb
   clear hx hcl hid e hP
   replace hb:=Lib.hid hb
   generalize idsD L=I at*
   generalize pathL k I=T at*
   replace hidl:=Lib.hid hidl
   refine zR ?_
   refine At.retDkA (by rw [Tryz.results104]) hB (hc:=?_) (he:=?_)
   ·rw [hb.out]<;>rfl
   ·rw [hb.out]<;>rfl
  ·rw [e]at c1 hP
   rw [if_neg (by omega)]at hP
   rw [hP]at hb
   clear hx hcl e hP
   replace hb:=Lib.hid hb
   refine zR ?_
   refine At.retDkA (by rw [Tryz.results104]) hB (hc:=?_) (he:=?_)
   ·rw [hb.out]<;>rfl
   ·rw [hb.out]<;>rfl
 ·cases hs with
  |false=>
   replace hb:=hb.trans (if_neg Bool.false_ne_true)
   replace hb:=Lib.hid hb
   clear hx hcl
   refine zR ?_
   refine At.retDkA (by rw [Tryz.results104]) hB (hc:=?_) (he:=?_)
   ·rw [hb.out]<;>rfl
   ·rw [hb.out]<;>rfl
  |true=>
   replace hb:=hb.trans (if_pos rfl)
   have hc:=hcl rfl
   have htb:tabOk (q,m):=hc.1.2.2.2.1
   have c1:=mAddP_eq (q,m) nn false htb
   have hP:peerX ((p,s),st,((h1,h2,h3,h4,h5,h6),v),(l,n),(q,m),now) nn=((p,s),st,((h1,h2,h3,h4,h5,h6),v),(l,n),(addT (q,m) nn false).1,now):=rfl
   have hT:peerT ((p,s),st,((h1,h2,h3,h4,h5,h6),v),(l,n),(q,m),now) nn=if(addT (q,m) nn false).2=true then okS else noS:=rfl
   dsimp only at hb
   rw [hP,hT]at hb
   clear hx hcl hc htb hP hT
   generalize addT (q,m) nn false=y at*
   obtain⟨⟨q',m'⟩,y2⟩:=y
   have c2:=mOkay_eq y2
   dsimp only at hb c1
   generalize (if y2=true then okS else noS)=X at*
   replace hb:=Lib.hid hb
   refine zR ?_
   refine At.retDkA (by rw [Tryz.results104]) hB (hc:=?_) (he:=?_)
   ·rw [hb.out]<;>rfl
   ·rw [hb.out]<;>rfl
 ·cases hs with
  |false=>
   replace hb:=hb.trans (if_neg Bool.false_ne_true)
   replace hb:=Lib.hid hb
   clear hx hcl
   refine zR ?_
   refine At.retDkA (by rw [Tryz.results104]) hB (hc:=?_) (he:=?_)
   ·rw [hb.out]<;>rfl
   ·rw [hb.out]<;>rfl
  |true=>
   replace hb:=hb.trans (if_pos rfl)
   have hc:=hcl rfl
   have c1:=mTick_eq ((p,s),st,((h1,h2,h3,h4,h5,h6),v),(l,n),(q,m),now) nn hc.1
   have hT:tickT ((p,s),st,((h1,h2,h3,h4,h5,h6),v),(l,n),(q,m),now) nn=if tickB ((p,s),st,((h1,h2,h3,h4,h5,h6),v),(l,n),(q,m),now) nn=true then(if(tickL ((p,s),st,((h1,h2,h3,h4,h5,h6),v),(l,n),(q,m),now) nn).2.1=2 then expW else folW)else noS:=rfl
   dsimp only at hb
   rw [hT]at hb
   clear hx hcl hc hT
   generalize tickL ((p,s),st,((h1,h2,h3,h4,h5,h6),v),(l,n),(q,m),now) nn=y at*
   generalize tickB ((p,s),st,((h1,h2,h3,h4,h5,h6),v),(l,n),(q,m),now) nn=z at*
   obtain⟨⟨p',s'⟩,st',⟨⟨h1',h2',h3',h4',h5',h6'⟩,v'⟩,⟨l',n'⟩,⟨q',m'⟩,now'⟩:=y
   dsimp only at hb
   cases z with
   |false=>
    rw [if_neg (by decide)]at hb
    replace hb:=Lib.hid hb
    refine zR ?_
    refine At.retDkA (by rw [Tryz.results104]) hB (hc:=?_) (he:=?_)
    ·rw [hb.out]<;>rfl
    ·rw [hb.out]<;>rfl
   |true=>
    rw [if_pos rfl]at hb
    by_cases hst:st'=2
    ·subst hst
     rw [if_pos rfl]at hb
     replace hb:=Lib.hid hb
     refine zR ?_
     refine At.retDkA (by rw [Tryz.results104]) hB (hc:=?_) (he:=?_)
     ·rw [hb.out]<;>rfl
     ·rw [hb.out]<;>rfl
    ·rw [if_neg hst]at hb
     replace hb:=Lib.hid hb
     refine zR ?_
     refine At.retDkA (by rw [Tryz.results104]) hB (hc:=?_) (he:=?_)
     ·rw [hb.out]<;>rfl
     ·rw [hb.out]<;>rfl
 ·cases hs with
  |false=>
   replace hb:=hb.trans (congrArg (Prod.mk _) (if_neg Bool.false_ne_true))
   replace hb:=Lib.hid hb
   clear hx hcl
   refine zR ?_
   refine At.retDkA (by rw [Tryz.results104]) hB (hc:=?_) (he:=?_)
   ·rw [hb.out]<;>rfl
   ·rw [hb.out]<;>rfl
  |true=>
   replace hb:=hb.trans (congrArg (Prod.mk _) (if_pos rfl))
   have hc:=hcl rfl
   have c1:=mSeen_eq ((p,s),st,((h1,h2,h3,h4,h5,h6),v),(l,n),(q,m),now) nn hc.1
   have hT:seenT ((p,s),st,((h1,h2,h3,h4,h5,h6),v),(l,n),(q,m),now) nn=if(getHd (l,n) nn).2=true then hexS (headId (getHd (l,n) nn).1)else noneW:=rfl
   dsimp only at hb c1
   rw [hT]at hb
   clear hx hcl hc hT
   generalize getHd (l,n) nn=y at*
   obtain⟨⟨y1,y2,y3,y4,y5,y6⟩,z⟩:=y
   dsimp only at hb c1
   cases z with
   |false=>
    rw [if_neg (by decide)]at hb
    replace hb:=Lib.hid hb
    refine zR ?_
    refine At.retDkA (by rw [Tryz.results104]) hB (hc:=?_) (he:=?_)
    ·rw [hb.out]<;>rfl
    ·rw [hb.out]<;>rfl
   |true=>
    rw [if_pos rfl]at hb
    have c2:=mHeadId_eq (y1,y2,y3,y4,y5,y6)
    have hz:=headId_size (y1,y2,y3,y4,y5,y6)
    have c3:=mHex_eq (headId (y1,y2,y3,y4,y5,y6)) (by omega)
    generalize headId (y1,y2,y3,y4,y5,y6)=I at*
    generalize hexS I=X at*
    replace hb:=Lib.hid hb
    refine zR ?_
    refine At.retDkA (by rw [Tryz.results104]) hB (hc:=?_) (he:=?_)
    ·rw [hb.out]<;>rfl
    ·rw [hb.out]<;>rfl
 ·replace hb:=Lib.hid hb
  clear hx hcl
  refine zR ?_
  refine At.retDkA (by rw [Tryz.results104]) hB (hc:=?_) (he:=?_)
  ·rw [hb.out]<;>rfl
  ·rw [hb.out]<;>rfl
end
section
def startW:ByteArray:={data:= #[115,116,97,114,116]}
def feedW:ByteArray:={data:= #[102,101,101,100]}
def lieW:ByteArray:={data:= #[108,105,101]}
def lieB (b:TBlock):TBlock:=((b.1.1,b.1.2.1,b.1.2.2.1,b.1.2.2.2.1,b.1.2.2.2.2.1,lieW),b.2)
noncomputable def startD (d:TDesk)(a b:Int):TDesk×ByteArray:=
 if d.1.length=0 then(d,noneW)
 else if newB (a,b) (d.1.getD 0 zBk) (d.1.getD 0 zBk).1.2.1=true then((d.1,newX (a,b) (d.1.getD 0 zBk) (d.1.getD 0 zBk).1.2.1,true),okS)else(d,noS)
noncomputable def feedD (d:TDesk)(a b:Int)(lie:Bool):TDesk×ByteArray:=
 if d.2.2=true∧0≤bkAt d.1 b then
  ((d.1,feedX d.2.1 a (if lie=true then lieB (d.1.getD (bkAt d.1 b).toNat zBk)else d.1.getD (bkAt d.1 b).toNat zBk),true),decT (feedC d.2.1 a (if lie=true then lieB (d.1.getD (bkAt d.1 b).toNat zBk)else d.1.getD (bkAt d.1 b).toNat zBk)))
 else(d,noneW)
noncomputable def twoD (d:TDesk)(w:ByteArray)(a b:Int):TDesk×ByteArray:=
 if w=startW then startD d a b
 else if w=feedW then feedD d a b false
 else if w=lieW then feedD d a b true
 else(d,whatW)
theorem two_ways (d:TDesk)(w:ByteArray)(a b:Int):
  (decide (w=(⟨#[115,116,97,114,116]⟩:ByteArray))=true∧twoD d w a b=startD d a b)∨
  (decide (w=(⟨#[115,116,97,114,116]⟩:ByteArray))=false∧decide (w=(⟨#[102,101,101,100]⟩:ByteArray))=true∧decide (w=(⟨#[108,105,101]⟩:ByteArray))=false∧twoD d w a b=feedD d a b false)∨
  (decide (w=(⟨#[115,116,97,114,116]⟩:ByteArray))=false∧decide (w=(⟨#[102,101,101,100]⟩:ByteArray))=false∧decide (w=(⟨#[108,105,101]⟩:ByteArray))=true∧twoD d w a b=feedD d a b true)∨
  (decide (w=(⟨#[115,116,97,114,116]⟩:ByteArray))=false∧decide (w=(⟨#[102,101,101,100]⟩:ByteArray))=false∧decide (w=(⟨#[108,105,101]⟩:ByteArray))=false∧twoD d w a b=(d,whatW)):=by
 by_cases h1:w=startW
 ·exact .inl ⟨decide_eq_true h1,if_pos h1⟩
 by_cases h2:w=feedW
 ·exact .inr (.inl ⟨decide_eq_false h1,decide_eq_true h2,decide_eq_false (fun h=>by rw [h2]at h;exact absurd h (by decide)),(if_neg h1).trans (if_pos h2)⟩)
 by_cases h3:w=lieW
 ·exact .inr (.inr (.inl ⟨decide_eq_false h1,decide_eq_false h2,decide_eq_true h3,(if_neg h1).trans ((if_neg h2).trans (if_pos h3))⟩))
 ·exact .inr (.inr (.inr ⟨decide_eq_false h1,decide_eq_false h2,decide_eq_false h3,(if_neg h1).trans ((if_neg h2).trans (if_neg h3))⟩))
theorem bkD_get {L:List TBlock}{k:Nat}(h:k<L.length):L.getD k zBk=L[k]:=by
 rw [List.getD_eq_getElem?_getD,gsE h]
 rfl
theorem startD_ok {d:TDesk}(h:deskOk d)(a b:Int):deskOk (startD d a b).1:=by
 unfold startD
 split
 ·exact h
 rename_i h0
 split
 ·rename_i hn
  have hk:0<d.1.length:=by omega
  refine⟨h.1,fun _=>cli_new hn ?_⟩
  rw [bkD_get hk]
  exact(h.1.2 0 hk).2
 ·exact h
theorem feedD_ok {d:TDesk}(h:deskOk d)(a b:Int)(lie:Bool):deskOk (feedD d a b lie).1:=by
 unfold feedD
 split
 ·rename_i hn
  refine⟨h.1,fun _=>cli_feed (h.2 hn.1) a ?_⟩
  rcases bkAt_ch h.1 b with⟨k,hk,-,e⟩|⟨-,e⟩
  ·rw [e,Int.toNat_natCast,bkD_get hk]
   have:=(h.1.2 k hk).2
   have h12:=h.1.1
   split
   ·show d.1[k].1.1≤12
    omega
   ·omega
  ·have:=hn.2
   omega
 ·exact h
theorem twoD_ok {d:TDesk}(h:deskOk d)(w:ByteArray)(a b:Int):deskOk (twoD d w a b).1:=by
 rcases two_ways d w a b with⟨-,e⟩|⟨-,-,-,e⟩|⟨-,-,-,e⟩|⟨-,-,-,e⟩<;>rw [e]
 ·exact startD_ok h a b
 ·exact feedD_ok h a b false
 ·exact feedD_ok h a b true
 ·exact h
theorem verC_in (t:TTrust)(a:TAnchor)(h:THeader)(n:List TVal)(c:TCommit)(now:Int):0≤verifyC t a h n c now∧verifyC t a h n c now≤9:=by
 unfold verifyC
 repeat(split<;>try omega)
theorem feedC_in (x:TLight)(id:Int)(b:TBlock):0≤feedC x id b∧feedC x id b≤9:=by
 unfold feedC
 split
 ·omega
 ·exact verC_in _ _ _ _ _ _
abbrev TTwo:=TDesk×ByteArray×Int×Int
theorem two_s:SoundDk Tryz.prog 105 (fun x:TTwo=>deskOk x.1) (fun x=>lDk x.1) (fun x=>[aS x.2.1,aI x.2.2.1,aI x.2.2.2]) (fun x=>lDk (twoD x.1 x.2.1 x.2.2.1 x.2.2.2).1) (fun x=>.string (twoD x.1 x.2.1 x.2.2.1 x.2.2.2).2):=by
 refine SoundDk.of Tryz.func105 rfl Tryz.ntmps105 ?_
 rintro⟨⟨L,⟨⟨p,s⟩,st,⟨⟨h1,h2,h3,h4,h5,h6⟩,v⟩,⟨l,n⟩,⟨q,m⟩,now⟩,hs⟩,wd,na,nb⟩ b w hx hB
 refine⟨by simp,?_⟩
 simp only [initC,List.map_cons,List.map_nil,toPL]
 simp only [initS,argPV,Nat.reduceAdd,lDk,lLt,List.cons_append,List.nil_append,List.map_cons,List.map_nil,toPL]
 replace hx:deskOk (L,((p,s),st,((h1,h2,h3,h4,h5,h6),v),(l,n),(q,m),now),hs):=hx
 have hΓ:=env_cons (hsO Tryz.func59) bkAt_s (env_cons (hsO Tryz.func101) decZI_s (env_cons (hsO Tryz.func148) okay_s (env_cons (hsO Tryz.func151) newI_s (env_cons (hsO Tryz.func152) copyBI_s (env_cons (hsO Tryz.func153) feedI_s env_nil)))))
 have hl12:L.length≤12:=hx.1.1
 have hlen:=bkRows_len L
 have hcl:hs=true→cliOk ((p,s),st,((h1,h2,h3,h4,h5,h6),v),(l,n),(q,m),now):=hx.2
 have hways:=two_ways (L,((p,s),st,((h1,h2,h3,h4,h5,h6),v),(l,n),(q,m),now),hs) wd na nb
 rcases hways with⟨t1,hb⟩|⟨t1,t2,t3,hb⟩|⟨t1,t2,t3,hb⟩|⟨t1,t2,t3,hb⟩
 ·have hS:startD (L,((p,s),st,((h1,h2,h3,h4,h5,h6),v),(l,n),(q,m),now),hs) na nb=if L.length=0 then((L,((p,s),st,((h1,h2,h3,h4,h5,h6),v),(l,n),(q,m),now),hs),noneW)else if newB (na,nb) (L.getD 0 zBk) (L.getD 0 zBk).1.2.1=true then((L,newX (na,nb) (L.getD 0 zBk) (L.getD 0 zBk).1.2.1,true),okS)else((L,((p,s),st,((h1,h2,h3,h4,h5,h6),v),(l,n),(q,m),now),hs),noS):=rfl
  rw [hS]at hb
  clear hS
  rcases Nat.eq_zero_or_pos L.length with h0|h0
  ·rw [if_pos h0]at hb
   have hL:L=[]:=List.length_eq_zero_iff.1 h0
   subst hL
   have hnil:bkRows []=[]:=rfl
   replace hb:=Lib.hid hb
   clear hx hcl
   refine zR ?_
   refine At.retDkA (by rw [Tryz.results105]) hB (hc:=?_) (he:=?_)
   ·rw [hb.out]<;>rfl
   ·rw [hb.out]<;>rfl
  ·rw [if_neg (by omega),bkD_get h0]at hb
   have hok:=(hx.1.2 0 h0).1
   have hrow:=bkRow_at L 0 h0
   have c1:=mNew_eq (na,nb) L[0] L[0].1.2.1 hok
   clear hx hcl hok
   have hL:L.length=0→False:=fun h=>by omega
   generalize L[0]=B at*
   have c2:=mOkay_eq (newB (na,nb) B B.1.2.1)
   generalize hz:newB (na,nb) B B.1.2.1=z at*
   obtain⟨⟨x1,x2,x3,x4,x5,x6⟩,b1,b2,⟨ch,cr,ci,cs⟩⟩:=B
   dsimp only [newX,aBk,rowsCm,bkRow]at hb hrow c1
   clear hz
   cases z with
   |true=>
    dsimp only [rNew]at c1
    rw [if_pos rfl]at hb c1 c2
    replace hb:=Lib.hid hb
    have hne:decide (((bkRows L).length:Int)=0)=false:=dcF (by omega)
    refine zR ?_
    refine At.retDkA (by rw [Tryz.results105]) hB (hc:=?_) (he:=?_)
    ·rw [hb.out]<;>rfl
    ·rw [hb.out]<;>rfl
   |false=>
    dsimp only [rNew]at c1
    rw [if_neg Bool.false_ne_true]at hb c1 c2
    replace hb:=Lib.hid hb
    have hne:decide (((bkRows L).length:Int)=0)=false:=dcF (by omega)
    refine zR ?_
    refine At.retDkA (by rw [Tryz.results105]) hB (hc:=?_) (he:=?_)
    ·rw [hb.out]<;>rfl
    ·rw [hb.out]<;>rfl
 ·have hS:feedD (L,((p,s),st,((h1,h2,h3,h4,h5,h6),v),(l,n),(q,m),now),hs) na nb false=if hs=true∧0≤bkAt L nb then((L,feedX ((p,s),st,((h1,h2,h3,h4,h5,h6),v),(l,n),(q,m),now) na (L.getD (bkAt L nb).toNat zBk),true),decT (feedC ((p,s),st,((h1,h2,h3,h4,h5,h6),v),(l,n),(q,m),now) na (L.getD (bkAt L nb).toNat zBk)))else((L,((p,s),st,((h1,h2,h3,h4,h5,h6),v),(l,n),(q,m),now),hs),noneW):=rfl
  rw [hS]at hb
  clear hS
  have c1:=mBkAt_eq L nb (by omega)
  have hw:=bkAt_ch hx.1 nb
  dsimp only at hw
  rcases hw with⟨k,hk,-,e⟩|⟨-,e⟩
  ·rw [e]at c1 hb
   cases hs with
   |false=>
    rw [if_neg (fun h=>by cases h.1)]at hb
    replace hb:=Lib.hid hb
    clear hx hcl e
    refine zR ?_
    refine At.retDkA (by rw [Tryz.results105]) hB (hc:=?_) (he:=?_)
    ·rw [hb.out]<;>rfl
    ·rw [hb.out]<;>rfl
   |true=>
    rw [if_pos ⟨rfl,by omega⟩,Int.toNat_natCast,bkD_get hk]at hb
    have hc:=hcl rfl
    have hok:=(hx.1.2 k hk).1
    have hrow:=bkRow_at L k hk
    have c2:=mCopyB_eq L[k] hok
    have c3:=mFeed_eq ((p,s),st,((h1,h2,h3,h4,h5,h6),v),(l,n),(q,m),now) na L[k] ⟨hc.1,hok,by have:=hc.2.2;dsimp only at this⊢;omega⟩
    have hin:=feedC_in ((p,s),st,((h1,h2,h3,h4,h5,h6),v),(l,n),(q,m),now) na L[k]
    have c4:=mDecZ_eq (feedC ((p,s),st,((h1,h2,h3,h4,h5,h6),v),(l,n),(q,m),now) na L[k]) ⟨by omega,by omega⟩
    clear hx hcl e hc hok
    generalize L[k]=B at*
    generalize feedX ((p,s),st,((h1,h2,h3,h4,h5,h6),v),(l,n),(q,m),now) na B=Y at*
    generalize feedC ((p,s),st,((h1,h2,h3,h4,h5,h6),v),(l,n),(q,m),now) na B=Z at*
    obtain⟨⟨x1,x2,x3,x4,x5,x6⟩,b1,b2,⟨ch,cr,ci,cs⟩⟩:=B
    obtain⟨⟨p',s'⟩,st',⟨⟨h1',h2',h3',h4',h5',h6'⟩,v'⟩,⟨l',n'⟩,⟨q',m'⟩,now'⟩:=Y
    dsimp only [aBk,rBk,rowsBk,rowsCm,bkRow]at hrow c2 c3
    replace hb:=Lib.hid hb
    have hne:decide ((k:Int)<0)=false:=dcF (by omega)
    refine zR ?_
    refine W.lateB hΓ 11 [[],[0],[0,1],[0,1,2],[],[],[0,1,2,3,4,5],[0,1,2,3,4,5,6],[0,1,2,3,4,5,6,7],[0,1,2,3,4,5,6,7],[],[0,1,2,3,4,5,6,7,8,10],[0,1,2,3,4,5,6,7,8,9,10,11]] [9] (rest:=?rest11) (Es:=?Es11) (st1:=?st111) (stA:=?stA11) (t:=?t11) (x:=?x11) (y:=?y11) (ty:=?ty11) (pos:=?pos11) (after:=?af11) (n:=?n11) (b:=?b11) ?_
    refine zQ ?_
    refine At.retDkA (by rw [Tryz.results105]) hB (hc:=?_) (he:=?_)
    ·rw [hb.out]<;>rfl
    ·rw [hb.out]<;>rfl
  ·rw [e,if_neg (fun h=>by have:=h.2;omega)]at hb
   rw [e]at c1
   clear hx hcl e
   replace hb:=Lib.hid hb
   cases hs with
   |false=>
    refine zR ?_
    refine At.retDkA (by rw [Tryz.results105]) hB (hc:=?_) (he:=?_)
    ·rw [hb.out]<;>rfl
    ·rw [hb.out]<;>rfl
   |true=>
    refine zR ?_
    refine At.retDkA (by rw [Tryz.results105]) hB (hc:=?_) (he:=?_)
    ·rw [hb.out]<;>rfl
    ·rw [hb.out]<;>rfl
 ·have hS:feedD (L,((p,s),st,((h1,h2,h3,h4,h5,h6),v),(l,n),(q,m),now),hs) na nb true=if hs=true∧0≤bkAt L nb then((L,feedX ((p,s),st,((h1,h2,h3,h4,h5,h6),v),(l,n),(q,m),now) na (lieB (L.getD (bkAt L nb).toNat zBk)),true),decT (feedC ((p,s),st,((h1,h2,h3,h4,h5,h6),v),(l,n),(q,m),now) na (lieB (L.getD (bkAt L nb).toNat zBk))))else((L,((p,s),st,((h1,h2,h3,h4,h5,h6),v),(l,n),(q,m),now),hs),noneW):=rfl
  rw [hS]at hb
  clear hS
  have c1:=mBkAt_eq L nb (by omega)
  have hw:=bkAt_ch hx.1 nb
  dsimp only at hw
  rcases hw with⟨k,hk,-,e⟩|⟨-,e⟩
  ·rw [e]at c1 hb
   cases hs with
   |false=>
    rw [if_neg (fun h=>by cases h.1)]at hb
    replace hb:=Lib.hid hb
    clear hx hcl e
    refine zR ?_
    refine At.retDkA (by rw [Tryz.results105]) hB (hc:=?_) (he:=?_)
    ·rw [hb.out]<;>rfl
    ·rw [hb.out]<;>rfl
   |true=>
    rw [if_pos ⟨rfl,by omega⟩,Int.toNat_natCast,bkD_get hk]at hb
    have hc:=hcl rfl
    have hok:=(hx.1.2 k hk).1
    have hrow:=bkRow_at L k hk
    have c2:=mCopyB_eq L[k] hok
    have c3:=mFeed_eq ((p,s),st,((h1,h2,h3,h4,h5,h6),v),(l,n),(q,m),now) na (lieB L[k]) ⟨hc.1,hok,by have:=hc.2.2;dsimp only at this⊢;omega⟩
    have hin:=feedC_in ((p,s),st,((h1,h2,h3,h4,h5,h6),v),(l,n),(q,m),now) na (lieB L[k])
    have c4:=mDecZ_eq (feedC ((p,s),st,((h1,h2,h3,h4,h5,h6),v),(l,n),(q,m),now) na (lieB L[k])) ⟨by omega,by omega⟩
    clear hx hcl e hc hok
    generalize L[k]=B at*
    generalize feedX ((p,s),st,((h1,h2,h3,h4,h5,h6),v),(l,n),(q,m),now) na (lieB B)=Y at*
    generalize feedC ((p,s),st,((h1,h2,h3,h4,h5,h6),v),(l,n),(q,m),now) na (lieB B)=Z at*
    obtain⟨⟨x1,x2,x3,x4,x5,x6⟩,b1,b2,⟨ch,cr,ci,cs⟩⟩:=B
    obtain⟨⟨p',s'⟩,st',⟨⟨h1',h2',h3',h4',h5',h6'⟩,v'⟩,⟨l',n'⟩,⟨q',m'⟩,now'⟩:=Y
    dsimp only [lieB,lieW,aBk,rBk,rowsBk,rowsCm,bkRow]at hrow c2 c3
    replace hb:=Lib.hid hb
    have hne:decide ((k:Int)<0)=false:=dcF (by omega)
    refine zR ?_
    refine W.lateB hΓ 11 [[],[0],[0,1],[0,1,2],[],[],[0,1,2,3,4,5],[0,1,2,3,4,5,6],[0,1,2,3,4,5,6,7],[0,1,2,3,4,5,6,7],[],[0,1,2,3,4,5,6,7,8,10],[0,1,2,3,4,5,6,7,8,9,10,11]] [9] (rest:=?rest21) (Es:=?Es21) (st1:=?st121) (stA:=?stA21) (t:=?t21) (x:=?x21) (y:=?y21) (ty:=?ty21) (pos:=?pos21) (after:=?af21) (n:=?n21) (b:=?b21) ?_
    refine zQ ?_
    refine At.retDkA (by rw [Tryz.results105]) hB (hc:=?_) (he:=?_)
    ·rw [hb.out]<;>rfl
    ·rw [hb.out]<;>rfl
  ·rw [e,if_neg (fun h=>by have:=h.2;omega)]at hb
   rw [e]at c1
   clear hx hcl e
   replace hb:=Lib.hid hb
   cases hs with
   |false=>
    refine zR ?_
    refine At.retDkA (by rw [Tryz.results105]) hB (hc:=?_) (he:=?_)
    ·rw [hb.out]<;>rfl
    ·rw [hb.out]<;>rfl
   |true=>
    refine zR ?_
    refine At.retDkA (by rw [Tryz.results105]) hB (hc:=?_) (he:=?_)
    ·rw [hb.out]<;>rfl
    ·rw [hb.out]<;>rfl
 ·replace hb:=Lib.hid hb
  clear hx hcl
  refine zR ?_
  refine At.retDkA (by rw [Tryz.results105]) hB (hc:=?_) (he:=?_)
  ·rw [hb.out]<;>rfl
  ·rw [hb.out]<;>rfl
end
section
def chainW:ByteArray:={data:= #[99,104,97,105,110]}
def zLt:TLight:=((0,0),0,(zHd,[]),([],0),([],0),0)
noncomputable def numD (d:TDesk)(w:ByteArray):List Int→TDesk×ByteArray
 |[]=>(d,bareD d w)
 |[a]=>oneD d w a
 |[a,b]=>twoD d w a b
 |_=>(d,whatW)
noncomputable def chD (d:TDesk)(s t:ByteArray):TDesk×ByteArray:=
 if(readZ t).2=true then((chainOf s (readZ t).1,zLt,false),decT (chainOf s (readZ t).1).length)else(d,whatW)
noncomputable def lineD (d:TDesk):List ByteArray→TDesk×ByteArray
 |[]=>(d,whatW)
 |w::r=>if w=chainW∧r.length=2 then chD d (r.getD 0 ByteArray.empty) (r.getD 1 ByteArray.empty)else if numsB r=true then numD d w (numsL r)else(d,whatW)
theorem zLt_ok (L:List TBlock)(h:chOk L):deskOk (L,zLt,false):=⟨h,fun e=>by cases e⟩
theorem chD_ok {d:TDesk}(h:deskOk d)(s t:ByteArray):deskOk (chD d s t).1:=by
 unfold chD
 split
 ·exact zLt_ok _ (chOk_of s _)
 ·exact h
theorem numD_ok {d:TDesk}(h:deskOk d)(w:ByteArray)(l:List Int):deskOk (numD d w l).1:=by
 match l with
 |[]=>exact h
 |[a]=>exact oneD_ok h w a
 |[a,b]=>exact twoD_ok h w a b
 |_::_::_::_=>exact h
theorem lineD_ok {d:TDesk}(h:deskOk d)(W:List ByteArray):deskOk (lineD d W).1:=by
 cases W with
 |nil=>exact h
 |cons w r=>
  show deskOk (if w=chainW∧r.length=2 then chD d (r.getD 0 ByteArray.empty) (r.getD 1 ByteArray.empty)else if numsB r=true then numD d w (numsL r)else(d,whatW)).1
  split
  ·exact chD_ok h _ _
  ·split
   ·exact numD_ok h w _
   ·exact h
def linesI (s:ByteArray):List ByteArray:=
 if(splitS s 10).getD ((splitS s 10).length-1) ByteArray.empty=ByteArray.empty then(splitS s 10).take ((splitS s 10).length-1)else splitS s 10
noncomputable def stepI (st:TDesk×ByteArray)(t:ByteArray):TDesk×ByteArray:=
 if t=ByteArray.empty then st else((lineD st.1 (splitS t 32)).1,st.2++(lineD st.1 (splitS t 32)).2++(⟨#[10]⟩:ByteArray))
def dk0:TDesk×ByteArray:=(([],zLt,false),ByteArray.empty)
noncomputable def runI (M:List ByteArray):TDesk×ByteArray:=M.foldl stepI dk0
noncomputable def deskI (s:ByteArray):ByteArray:=if 20000<s.size∨80<(linesI s).length then ByteArray.empty else(runI (linesI s)).2
theorem runI_snoc (M:List ByteArray)(t:ByteArray):runI (M++[t])=stepI (runI M) t:=by
 unfold runI
 rw [List.foldl_append]
 rfl
theorem stepI_ok {st:TDesk×ByteArray}(h:deskOk st.1)(t:ByteArray):deskOk (stepI st t).1:=by
 unfold stepI
 split
 ·exact h
 ·exact lineD_ok h _
theorem runI_ok (M:List ByteArray):deskOk (runI M).1:=by
 have key:∀(M:List ByteArray) (st:TDesk×ByteArray),deskOk st.1→deskOk (M.foldl stepI st).1:=by
  intro M
  induction M with
  |nil=>exact fun st h=>h
  |cons t r ih=>exact fun st h=>ih _ (stepI_ok h t)
 exact key M dk0 (zLt_ok [] chOk_nil)
theorem linesI_small (s:ByteArray):(linesI s).length≤s.size+1∧∀x∈linesI s,x.size≤s.size:=by
 obtain⟨⟨h0,h1⟩,h2⟩:=splitS_small s 10
 unfold linesI
 split
 ·exact⟨by rw [List.length_take];omega,fun x hx=>h2 x (List.mem_of_mem_take hx)⟩
 ·exact⟨h1,h2⟩
theorem none_size:noneW.size=4:=rfl
theorem what_size:whatW.size=4:=rfl
theorem banD_size (x:TLight):(banD x).size≤1188:=by
 have h1:(banL x.2.2.2.2.1.1 x.2.2.2.2.2).length≤99:=banK_len _ _ 99
 have h2:=joinS_size (banL x.2.2.2.2.1.1 x.2.2.2.2.2) (banL x.2.2.2.2.1.1 x.2.2.2.2.2).length
 unfold banD
 omega
theorem tipD_size (x:TLight):(tipD x).size≤28:=by
 have h1:=decT_size x.2.2.1.1.1
 have h2:=headId_size x.2.2.1.1
 have h3:spW.size=1:=rfl
 unfold tipD
 rw [ByteArray.size_append,ByteArray.size_append,hexS_size]
 omega
theorem bareD_size (d:TDesk)(w:ByteArray):(bareD d w).size≤1200:=by
 have h1:=tree_size (idsD d.1)
 have h2:=tipD_size d.2.1
 have h3:=banD_size d.2.1
 have h4:=none_size
 have h5:=what_size
 unfold bareD
 split
 ·rw [hexS_size];omega
 split
 ·split<;>omega
 split
 ·split<;>omega
 ·omega
theorem oneD_size (d:TDesk)(w:ByteArray)(n:Int):(oneD d w n).2.size≤1200:=by
 have h4:=none_size
 have h5:=what_size
 rcases one_ways d w n with⟨-,e⟩|⟨-,-,e⟩|⟨-,-,-,e⟩|⟨-,-,-,-,e⟩|⟨-,-,-,-,e⟩<;>rw [e]
 ·show(proofD d n).size≤1200
  unfold proofD
  split
  ·exact Nat.le_trans (decT_size _) (by decide)
  ·omega
 ·split
  ·show(peerT d.2.1 n).size≤1200
   unfold peerT
   split
   ·exact(by decide:okS.size≤1200)
   ·exact(by decide:noS.size≤1200)
  ·show noneW.size≤1200
   omega
 ·split
  ·show(tickT d.2.1 n).size≤1200
   unfold tickT
   split
   ·split
    ·exact(by decide:expW.size≤1200)
    ·exact(by decide:folW.size≤1200)
   ·exact(by decide:noS.size≤1200)
  ·show noneW.size≤1200
   omega
 ·show(if d.2.2=true then seenT d.2.1 n else noneW).size≤1200
  split
  ·unfold seenT
   split
   ·rw [hexS_size]
    have:=headId_size (getHd d.2.1.2.2.2.1 n).1
    omega
   ·omega
  ·omega
 ·show whatW.size≤1200
  omega
theorem twoD_size (d:TDesk)(w:ByteArray)(a b:Int):(twoD d w a b).2.size≤1200:=by
 have h4:=none_size
 have h5:=what_size
 have hf:∀lie,(feedD d a b lie).2.size≤1200:=fun lie=>by
  unfold feedD
  split
  ·exact Nat.le_trans (decT_size _) (by decide)
  ·show noneW.size≤1200
   omega
 rcases two_ways d w a b with⟨-,e⟩|⟨-,-,-,e⟩|⟨-,-,-,e⟩|⟨-,-,-,e⟩<;>rw [e]
 ·unfold startD
  split
  ·show noneW.size≤1200
   omega
  ·split
   ·exact(by decide:okS.size≤1200)
   ·exact(by decide:noS.size≤1200)
 ·exact hf false
 ·exact hf true
 ·show whatW.size≤1200
  omega
theorem numD_size (d:TDesk)(w:ByteArray)(l:List Int):(numD d w l).2.size≤1200:=by
 match l with
 |[]=>exact bareD_size d w
 |[a]=>exact oneD_size d w a
 |[a,b]=>exact twoD_size d w a b
 |_::_::_::_=>exact(by decide:whatW.size≤1200)
theorem lineD_size (d:TDesk)(W:List ByteArray):(lineD d W).2.size≤1200:=by
 cases W with
 |nil=>exact(by decide:whatW.size≤1200)
 |cons w r=>
  show(if w=chainW∧r.length=2 then chD d (r.getD 0 ByteArray.empty) (r.getD 1 ByteArray.empty)else if numsB r=true then numD d w (numsL r)else(d,whatW)).2.size≤1200
  split
  ·unfold chD
   split
   ·exact Nat.le_trans (decT_size _) (by decide)
   ·exact(by decide:whatW.size≤1200)
  ·split
   ·exact numD_size d w _
   ·exact(by decide:whatW.size≤1200)
theorem stepI_size (st:TDesk×ByteArray)(t:ByteArray):(stepI st t).2.size≤st.2.size+1201:=by
 unfold stepI
 split
 ·omega
 ·show(st.2++(lineD st.1 (splitS t 32)).2++(⟨#[10]⟩:ByteArray)).size≤_
  rw [ByteArray.size_append,ByteArray.size_append]
  have h1:=lineD_size st.1 (splitS t 32)
  have h2:(⟨#[10]⟩:ByteArray).size=1:=rfl
  omega
theorem runI_size (M:List ByteArray):(runI M).2.size≤1201*M.length:=by
 have key:∀(M:List ByteArray) (st:TDesk×ByteArray),(M.foldl stepI st).2.size≤st.2.size+1201*M.length:=by
  intro M
  induction M with
  |nil=>exact fun st=>Nat.le_refl _
  |cons t r ih=>
   intro st
   have h1:=ih (stepI st t)
   have h2:=stepI_size st t
   rw [List.foldl_cons,List.length_cons]
   omega
 have h:=key M dk0
 have h0:dk0.2.size=0:=rfl
 unfold runI
 omega
theorem nl_size:(⟨#[10]⟩:ByteArray).size≤1:=Nat.le_refl _
end
end Go.Proofs.YtfgkfcfplodaoaaGreatDoor
