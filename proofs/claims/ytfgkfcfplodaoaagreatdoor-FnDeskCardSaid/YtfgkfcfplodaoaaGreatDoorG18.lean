/-
  Put together out of 3 texts.
-/
import Derived.Test.YtfgkfcfplodaoaaGreatDoorG17
import Derived.Test.YtfgkfcfplodaoaaGreatDoorG16
set_option linter.unusedSimpArgs false
set_option linter.unusedVariables false
set_option maxRecDepth 100000
set_option maxHeartbeats 8000000
namespace Go.Proofs.YtfgkfcfplodaoaaGreatDoor
open Go Go.RowKit
section
noncomputable def mTab:=mdl (fun t:TTab=>t.1.length≤8796093022207) (fun t=>[aTab t]) (fun t=>rB (decide (tabOk t)))
theorem mTab_eq (t:TTab)(h:t.1.length≤8796093022207):mTab [aTab t]=some (rB (decide (tabOk t))):=mdl_eq (fun a b h=>aTab_inj (by simpa using h)) t h
theorem peer_bad {l:List TPeer}{n:Int}{k:Nat}(hk:k<l.length)(h:¬peerAt l k):decide (tabOk (l,n))=false:=dcF fun q=>h (q.2 k hk)
theorem tabI_s:Sound Tryz.prog 189 mTab:=by
 refine Sound.mdl Tryz.func189 rfl Tryz.ntmps189 ?_
 rintro⟨l,n⟩ w hl
 refine⟨by simp,?_⟩
 replace hl:l.length≤8796093022207:=hl
 have hΓ:=env_cons (hsO Tryz.func139) within_s (env_cons (hsO Tryz.func193) atPI_s (env_cons (hsO Tryz.func125) isTime_s env_nil))
 have hlen:=rowsF_len cPeer l
 refine zJ ?_
 refine W.loopA (fun k=>k≤l.length∧∀j,j<k→peerAt l j) (fun k:Nat=>[.slot 1 (one (.ptr 1 0)),.blk 1 (bxTab (l,n)),.slot 6 (vL cPeer l),.slot 7 (vI l.length),.slot 8 (vI k)]) (fun k=>l.length-k) 0 ⟨Nat.zero_le _,fun j hj=>by omega⟩ (h:=?_)
 rintro k ⟨hk,hI⟩
 by_cases hlt:k<l.length
 ·have hrow:=peerD_row hlt
  have hnx:=peer_next hI
  have hbd:¬peerAt l k→decide (tabOk (l,n))=false:=peer_bad hlt
  clear hI
  unfold peerAt peerOk at hnx hbd
  generalize peerD l k=p at*
  obtain⟨i,pn,un,bn⟩:=p
  dsimp only at hnx hbd hrow
  have c1:=mWithin_eq i 1 99
  have c2:=mWithin_eq un 0 1000320
  have c3:=mWithin_eq bn 0 20
  have c4:=mAtP_eq (l,n) i hl
  have hq:=atP_in l i hl
  dsimp only at c4
  generalize atP l i=q at*
  by_cases h1:1≤i∧i≤99
  ·rw [decide_eq_true h1]at c1
   by_cases h2:0≤un∧un≤1000320
   ·rw [decide_eq_true h2]at c2
    by_cases h3:0≤bn∧bn≤20
    ·rw [decide_eq_true h3]at c3
     by_cases h4:q=(k:Int)
     ·have hnz:=Lib.hid (hnx ⟨⟨h1,h2,h3⟩,h4⟩)
      clear hnx hbd h1 h2 h3 hq
      subst h4
      refine zR ?_
      exact At.roundA (k+1) ⟨by omega,hnz.out⟩ (by omega)
     ·have hbd:=Lib.hid (hbd fun h=>h4 h.2)
      clear hnx h1 h2 h3 hq
      refine zR ?_
      refine At.retA (by rw [Tryz.results189]) (he:=?_)
      rw [hbd.out]
    ·have hbd:=Lib.hid (hbd fun h=>h3 h.1.2.2)
     rw [decide_eq_false h3]at c3
     clear hnx h1 h2 h3 hq c4
     refine zR ?_
     refine At.retA (by rw [Tryz.results189]) (he:=?_)
     rw [hbd.out]
   ·have hbd:=Lib.hid (hbd fun h=>h2 h.1.2.1)
    rw [decide_eq_false h2]at c2
    clear hnx h1 h2 hq c3 c4
    refine zR ?_
    refine At.retA (by rw [Tryz.results189]) (he:=?_)
    rw [hbd.out]
  ·have hbd:=Lib.hid (hbd fun h=>h1 h.1.1)
   rw [decide_eq_false h1]at c1
   clear hnx h1 hq c2 c3 c4
   refine zR ?_
   refine At.retA (by rw [Tryz.results189]) (he:=?_)
   rw [hbd.out]
 ·have c5:=mTime_eq n
  by_cases h6:l.length≤6
  ·by_cases h7:0≤n∧n≤1000000
   ·have hgood:decide (tabOk (l,n))=true:=dcT ⟨⟨h6,h7⟩,fun j hj=>hI j (by have hj:j<l.length:=hj;omega)⟩
    have hgood:=Lib.hid hgood
    rw [decide_eq_true h7]at c5
    clear hI h7
    refine zR ?_
    refine At.retA (by rw [Tryz.results189]) (he:=?_)
    rw [hgood.out]
   ·have hbd:decide (tabOk (l,n))=false:=dcF fun h=>h7 h.1.2
    have hbd:=Lib.hid hbd
    rw [decide_eq_false h7]at c5
    clear hI h7
    refine zR ?_
    refine At.retA (by rw [Tryz.results189]) (he:=?_)
    rw [hbd.out]
  ·have hbd:decide (tabOk (l,n))=false:=dcF fun h=>h6 h.1.1
   have hbd:=Lib.hid hbd
   clear hI c5
   refine zR ?_
   refine At.retA (by rw [Tryz.results189]) (he:=?_)
   rw [hbd.out]
theorem tabS_s:Sound Tryz.prog 207 mTab:=by
 refine Sound.mdl Tryz.func207 rfl Tryz.ntmps207 ?_
 rintro⟨l,n⟩ w hl
 refine⟨by simp,?_⟩
 replace hl:l.length≤8796093022207:=hl
 have hΓ:=env_cons (hsO Tryz.func39) l1In_s (env_cons (hsO Tryz.func209) atPS_s (env_cons (hsO Tryz.func74) l10Time_s env_nil))
 have hlen:=rowsF_len cPeer l
 have c5:=mTime_eq n
 refine zI ?_
 by_cases h6:l.length≤6
 ·by_cases h7:0≤n∧n≤1000000
  ·have c5':=Lib.hid c5
   rw [decide_eq_true h7]at c5
   have h7:=Lib.hid h7
   refine zR ?_
   clear c5 c5'
   refine W.loopA (fun k=>k≤l.length∧∀j,j<k→peerAt l j) (fun k:Nat=>[.slot 1 (one (.ptr 1 0)),.blk 1 (bxTab (l,n)),.slot 3 (vI k)]) (fun k=>l.length-k) 0 ⟨Nat.zero_le _,fun j hj=>by omega⟩ (h:=?_)
   rintro k ⟨hk,hI⟩
   by_cases hlt:k<l.length
   ·have hrow:=peerD_row hlt
    have hnx:=peer_next hI
    have hbd:¬peerAt l k→decide (tabOk (l,n))=false:=peer_bad hlt
    clear hI
    unfold peerAt peerOk at hnx hbd
    generalize peerD l k=p at*
    obtain⟨i,pn,un,bn⟩:=p
    dsimp only at hnx hbd hrow
    have c1:=mIn_eq i 1 99
    have c2:=mIn_eq un 0 1000320
    have c3:=mIn_eq bn 0 20
    have c4:=mAtP_eq (l,n) i hl
    have hq:=atP_in l i hl
    dsimp only at c4
    generalize atP l i=q at*
    by_cases h1:1≤i∧i≤99
    ·rw [decide_eq_true h1]at c1
     by_cases h2:0≤un∧un≤1000320
     ·rw [decide_eq_true h2]at c2
      by_cases h3:0≤bn∧bn≤20
      ·rw [decide_eq_true h3]at c3
       by_cases h4:q=(k:Int)
       ·have hnz:=Lib.hid (hnx ⟨⟨h1,h2,h3⟩,h4⟩)
        clear hnx hbd h1 h2 h3 hq
        subst h4
        refine zR ?_
        exact At.roundA (k+1) ⟨by omega,hnz.out⟩ (by omega)
       ·have hbd:=Lib.hid (hbd fun h=>h4 h.2)
        clear hnx h1 h2 h3 hq
        refine zR ?_
        refine At.retA (by rw [Tryz.results207]) (he:=?_)
        rw [hbd.out]
      ·have hbd:=Lib.hid (hbd fun h=>h3 h.1.2.2)
       rw [decide_eq_false h3]at c3
       clear hnx h1 h2 h3 hq c4
       refine zR ?_
       refine At.retA (by rw [Tryz.results207]) (he:=?_)
       rw [hbd.out]
     ·have hbd:=Lib.hid (hbd fun h=>h2 h.1.2.1)
      rw [decide_eq_false h2]at c2
      clear hnx h1 h2 hq c3 c4
      refine zR ?_
      refine At.retA (by rw [Tryz.results207]) (he:=?_)
      rw [hbd.out]
    ·have hbd:=Lib.hid (hbd fun h=>h1 h.1.1)
     rw [decide_eq_false h1]at c1
     clear hnx h1 hq c2 c3 c4
     refine zR ?_
     refine At.retA (by rw [Tryz.results207]) (he:=?_)
     rw [hbd.out]
   ·have hgood:decide (tabOk (l,n))=true:=dcT ⟨⟨h6,h7.out⟩,fun j hj=>hI j (by have hj:j<l.length:=hj;omega)⟩
    have hgood:=Lib.hid hgood
    clear hI
    refine zR ?_
    refine At.retA (by rw [Tryz.results207]) (he:=?_)
    rw [hgood.out]
  ·have hbd:decide (tabOk (l,n))=false:=dcF fun h=>h7 h.1.2
   have hbd:=Lib.hid hbd
   rw [decide_eq_false h7]at c5
   clear h7
   refine zR ?_
   refine At.retA (by rw [Tryz.results207]) (he:=?_)
   rw [hbd.out]
 ·have hbd:decide (tabOk (l,n))=false:=dcF fun h=>h6 h.1.1
  have hbd:=Lib.hid hbd
  clear c5
  refine zR ?_
  refine At.retA (by rw [Tryz.results207]) (he:=?_)
  rw [hbd.out]
end
section
section
variable {P:Program}{γ0:Nat→Option Nat}{w0:World}{N:Nat}{st:St}{a:Act}{w:World}{η:Nat→Value}{γ:Nat→Option Nat}{Q:Exit→Act→World→Prop}
theorem WL.opApp0 {ops:Array Oper}{r:List Oper}{d n t e s i:Nat}{x0 x1:Operand}{ty:TypeId}{pos:String}{after:Array Edge}
  (he:elT P t=some e) (hs:szT P e=some s) (hp:ev st x0=one (.ref n 0 i)) (hq:ev st x1=one (.sl [])) (hN:d<N)
  (hk:WL P γ0 w0 N ops r (.slot d (one (.ref n 0 i))::st) Q):
  WL P γ0 w0 N ops (⟨some d,.call ⟨.builtin .append, #[x0,x1], #[t,t]⟩,ty,pos,after,none⟩::r) st Q:=fun a w hR=>by
 refine wpList_plain rfl fun K hK=>?_
 obtain⟨η,γ,hI⟩:=hR
 have h0:=ev_sound hI x0
 have h1:=ev_sound hI x1
 rw [hp]at h0
 rw [hq]at h1
 have h1:RepL w γ (.sl []) (a.eval x1):=RepV.one_iff.1 h1
 have hsl:∃B c,a.eval x1=.slice B 0 c:=by
  generalize a.eval x1=u at h1
  cases h1 with
  |emp hc=>exact⟨_,_,rfl⟩
  |sl val hg hb hl hc hs hcell hrep=>exact⟨_,_,rfl⟩
 obtain⟨B,c,hB⟩:=hsl
 have h0':=RepV.one_iff.1 h0
 have hx0:∃A cap,a.eval x0=.slice A i cap∧i≤cap:=by
  obtain⟨fl,e',s',rows,k1,k2,k3⟩:=h0'
  rcases k3 with⟨_,k4,k5⟩|⟨b,c',cap,_,k4,k5,_⟩
  ·exact⟨none,0,by rw [k4,k5],by omega⟩
  ·exact⟨_,cap,k4,k5⟩
 obtain⟨A,cap,hA,hcap⟩:=hx0
 have hrun:=run_append_zero (P:=P) (w:=w) (t:=t) (ty:=ty) he hs A B i cap c hcap
 rw [←hA,←hB]at hrun
 exact wp_value (u:=a.eval x0) (w':=w) (by unfold execOp;simp [resolve,invoke,builtin,hrun]) (hK _ _ (hk _ _ ⟨η,γ,hI.put d _ _ hN h0⟩))
theorem WL.opAppIn {ops:Array Oper}{r:List Oper}{d n t e s i off len:Nat}{x0 x1:Operand}{ty:TypeId}{pos:String}{after:Array Edge}{fl:Fl}{rows:List (List Leaf)}
  (he:elT P t=some e) (hs:szT P e=some s) (hp:ev st x0=one (.ref n 0 i)) (hq:ev st x1=one (.ref n off len)) (hb:getB st n=some (.arr fl e s rows)) (hns:fl=.ft) (hl:0<len) (hio:i+len≤rows.length) (hol:off+len≤rows.length) (hN:d<N)
  (hk:WL P γ0 w0 N ops r (.slot d (one (.ref n 0 (i+len)))::.blk n (.arr .ft e s (rows.take i++(rows.drop off).take len++rows.drop (i+len)))::st) Q):
  WL P γ0 w0 N ops (⟨some d,.call ⟨.builtin .append, #[x0,x1], #[t,t]⟩,ty,pos,after,none⟩::r) st Q:=fun a w hR=>by
 subst hns
 refine wpList_plain rfl fun K hK=>?_
 obtain⟨η,γ,hI⟩:=hR
 have h0:=ev_sound hI x0
 have h1:=ev_sound hI x1
 rw [hp]at h0
 rw [hq]at h1
 obtain⟨fl0,e0,s0,rows0,k1,k2,k3⟩:=RepV.one_iff.1 h0
 rw [hb]at k1
 cases k1
 obtain⟨fl1,e1,s1,rows1,j1,j2,j3⟩:=RepV.one_iff.1 h1
 rw [hb]at j1
 cases j1
 obtain⟨xs,⟨ho1,ho2⟩,hr,hw,hgo,hff⟩:=hI.blks n _ hb
 rw [vw_of rfl]at hr
 rcases ho2 with⟨ho,hz⟩|⟨b,cap,cur,ho,_,q1,q2,q3,q4,q5⟩
 ·omega
 have hgb:γ b=some n:=hgo b (by rw [ho];rfl)
 have hlen0:0<rows.length:=by omega
 rcases k3 with⟨k4,_⟩|⟨b0,c0,cap0,k4,k5,k6,k7,k8⟩
 ·rw [ho]at k4;cases k4
 rw [ho]at k4
 cases k4
 rcases j3 with⟨j4,_⟩|⟨b1,c1,cap1,j4,j5,j6,j7,j8⟩
 ·rw [ho]at j4;cases j4
 rw [ho]at j4
 cases j4
 obtain⟨inf,hi,hs'⟩:=oms hs
 have hiz:inf.size=s:=hs'
 have hxl:xs.length=rows.length*s:=ho1
 have hms:(off+len)*s≤rows.length*s:=Nat.mul_le_mul_right _ hol
 have hms2:(i+len)*s≤rows.length*s:=Nat.mul_le_mul_right _ hio
 have hms3:rows.length*s≤cap*s:=Nat.mul_le_mul_right _ q2
 rw [Nat.add_mul]at hms hms2
 have hcz:cur.toList.length=cur.size:=by simp
 have hnl:((xs.drop (off*s)).take (len*s)).length=len*s:=by rw [List.length_take,List.length_drop];omega
 have hcell:∀(j:Nat) (u:Value),xs[j]?=some u→w.cell? ⟨b,j,none⟩=some u:=fun j u hj=>by
  rw [←q5,List.getElem?_take]at hj
  split at hj
  ·simp only [World.cell?,q1,Option.isSome_none,Bool.false_eq_true,if_false]
   simpa using hj
  ·cases hj
 have hone:∀u∈xs,u.oneCell'=true:=hr.oneC
 have hnews:∀(j:Nat) (u:Value),((xs.drop (off*s)).take (len*s))[j]?=some u→w.cell? ((⟨b,off*s,none⟩:Addr).add j)=some u:=fun j u hj=>by
  rw [List.getElem?_take]at hj
  split at hj
  ·rw [List.getElem?_drop]at hj
   rw [Addr.add_lit]
   exact hcell _ u hj
  ·cases hj
 have hrun:=run_append_room (P:=P) (ty:=ty) w t e inf (elT_sound he) hi b i cap cur q1 ⟨b,off*s,none⟩ len cap1 ((xs.drop (off*s)).take (len*s)) (by rw [hiz];exact hnl) hnews (fun u hu=>hone u (List.mem_of_mem_drop (List.mem_of_mem_take hu))) (by omega) (by rw [hiz,hnl];omega)
 rw [hiz,hnl]at hrun
 have hz0:(⟨b,0*s,none⟩:Addr)=⟨b,0,none⟩:=by rw [Nat.zero_mul]
 have hcap0:cap0=cap:=by omega
 subst hcap0
 rw [hz0]at k5
 rw [←k5,←j5]at hrun
 have hct:cur.toList.take (i*s)=xs.take (i*s):=by rw [←q5,List.take_take,Nat.min_eq_left (by omega)]
 have hwt:∀m:Nat,∀row∈rows.take m,row.length=s:=fun m row hr=>hw row (List.mem_of_mem_take hr)
 have hwd:∀m:Nat,∀row∈rows.drop m,row.length=s:=fun m row hr=>hw row (List.mem_of_mem_drop hr)
 have hft:∀m:Nat,m≤rows.length→(rows.take m).flatten=rows.flatten.take (m*s):=fun m hm=>take_rows hw hm
 have hfd:∀m:Nat,m≤rows.length→(rows.drop m).flatten=rows.flatten.drop (m*s):=fun m hm=>by
  have e2:(rows.take m).flatten.length=m*s:=by rw [flatten_len (hwt m),List.length_take,Nat.min_eq_left hm]
  conv=>rhs;rw [←List.take_append_drop m rows,List.flatten_append,←e2,List.drop_left]
 have hlen':(rows.take i++(rows.drop off).take len++rows.drop (i+len)).length=rows.length:=by
  simp only [List.length_append,List.length_take,List.length_drop];omega
 have hwid:∀row∈rows.take i++(rows.drop off).take len++rows.drop (i+len),row.length=s:=fun row hr=>by
  rcases List.mem_append.1 hr with hr|hr
  ·rcases List.mem_append.1 hr with hr|hr
   ·exact hwt _ row hr
   ·exact hwd _ row (List.mem_of_mem_take hr)
  ·exact hwd _ row hr
 have hmid:((rows.drop off).take len).flatten=(rows.flatten.drop (off*s)).take (len*s):=by
  rw [take_rows (hwd off) (by rw [List.length_drop];omega),hfd off (by omega)]
 have hflat:(rows.take i++(rows.drop off).take len++rows.drop (i+len)).flatten=rows.flatten.take (i*s)++(rows.flatten.drop (off*s)).take (len*s)++rows.flatten.drop ((i+len)*s):=by
  rw [List.flatten_append,List.flatten_append,hft i (by omega),hmid,hfd (i+len) hio]
 have hxl2:(xs.take (i*s)).length=i*s:=by rw [List.length_take];omega
 refine wp_value (u:=.slice (some ⟨b,0,none⟩) (i+len) cap0) (w':=w.setRow b (cur.toList.take (i*s)++(xs.drop (off*s)).take (len*s)++cur.toList.drop (i*s+len*s)).toArray) (by unfold execOp;simp [resolve,invoke,builtin,hrun]) (hK _ _ (hk _ _ ⟨η,γ,?_⟩))
 refine Inv.put (hI.turn n _ (.arr .ft e s (rows.take i++(rows.drop off).take len++rows.drop (i+len))) hb b hgb _ ⟨rfl,rfl,hlen',fun e'=>e'⟩ fun hn hkp=>⟨xs.take (i*s)++(xs.drop (off*s)).take (len*s)++xs.drop ((i+len)*s),⟨by
   simp only [List.length_append,hxl2,hnl,List.length_drop,hlen',Nat.add_mul];omega,.inr ⟨b,cap0,_,by rw [hlen'];exact ho,Nat.zero_le _,setRow_heap w b cur _ e _ q1,by rw [hlen'];exact q2,q3,by
   simp only [List.size_toArray,List.length_append,List.length_take,List.length_drop,hnl,hcz]
   omega,by
   rw [List.toList_toArray,hlen',hct]
   have hd:(cur.toList.drop (i*s+len*s)).take (rows.length*s-(i*s+len*s))=xs.drop ((i+len)*s):=by
    rw [←q5,List.drop_take,Nat.add_mul]
   have hA:(xs.take (i*s)++(xs.drop (off*s)).take (len*s)).length=i*s+len*s:=by simp only [List.length_append,hxl2,hnl]
   rw [List.take_append,List.take_of_length_le (by rw [hA];omega),hA,hd]⟩⟩,?_,hwid,hgo,⟨fun _ row hr x hx=>?_,fun hf=>(by cases hf),fun _ _ hf=>(by cases hf)⟩⟩) d _ _ hN ?_
 ·rw [vw_of rfl,hflat]
  have hr':=hr.kp hkp
  refine RepLs.append (RepLs.append (hr'.take _) ?_) ?_
  ·refine RepLs.take ?_ _
   exact⟨by rw [List.length_drop,List.length_drop,hr'.1],fun j x hj=>by
    rw [List.getElem?_drop]at hj⊢
    exact hr'.2 _ x hj⟩
  ·exact⟨by rw [List.length_drop,List.length_drop,hr'.1],fun j x hj=>by
    rw [List.getElem?_drop]at hj⊢
    exact hr'.2 _ x hj⟩
 ·have hfl:=hff.1 rfl
  rcases List.mem_append.1 hr with hr|hr
  ·rcases List.mem_append.1 hr with hr|hr
   ·exact hfl row (List.mem_of_mem_take hr) x hx
   ·exact hfl row (List.mem_of_mem_drop (List.mem_of_mem_take hr)) x hx
  ·exact hfl row (List.mem_of_mem_drop hr) x hx
 ·refine RepV.one_iff.2 ⟨.ft,e,s,_,getB_hit _ _ _,by rw [hlen'];omega,.inr ⟨b,cap0,cap0,by rw [hlen'];exact ho,by rw [Nat.zero_mul],by omega,q3,by omega⟩⟩
theorem WL.opSlC {ops:Array Oper}{r:List Oper}{d n t e s len lo hi:Nat}{x0 x1 x2:Operand}{ty:TypeId}{pos:String}{after:Array Edge}{fl:Fl}{rows:List (List Leaf)}
  (he:elT P t=some e) (hs:szT P e=some s) (hp:ev st x0=one (.ref n 0 len)) (hb:getB st n=some (.arr fl e s rows)) (h1:ev st x1=one (.sc (.int .i64 (lo:Int)))) (h2:ev st x2=one (.sc (.int .i64 (hi:Int)))) (hlh:lo<hi) (hhi:hi≤rows.length) (hN:d<N)
  (hk:WL P γ0 w0 N ops r (.slot d (one (.ref n lo (hi-lo)))::st) Q):
  WL P γ0 w0 N ops (⟨some d,.slice t x0 (some x1) (some x2) none,ty,pos,after,none⟩::r) st Q:=fun a w hR=>by
 refine wpList_plain rfl fun K hK=>?_
 obtain⟨η,γ,hI⟩:=hR
 have h0:=ev_sound hI x0
 have h1':=ev_sound hI x1
 have h2':=ev_sound hI x2
 rw [hp]at h0
 rw [h1]at h1'
 rw [h2]at h2'
 obtain⟨h1',-⟩:=RepV.one_iff.1 h1'
 obtain⟨h2',-⟩:=RepV.one_iff.1 h2'
 obtain⟨fl0,e0,s0,rows0,k1,k2,k3⟩:=RepV.one_iff.1 h0
 rw [hb]at k1
 cases k1
 obtain⟨xs,⟨ho1,ho2⟩,-⟩:=hI.blks n _ hb
 rcases ho2 with⟨ho,hz⟩|⟨b,cap,cur,ho,_,q1,q2,q3,q4,q5⟩
 ·omega
 rcases k3 with⟨k4,_⟩|⟨b0,c0,cap0,k4,k5,k6,k7,k8⟩
 ·rw [ho]at k4;cases k4
 rw [ho]at k4
 cases k4
 have hcap0:cap0=cap:=by omega
 subst hcap0
 have hrun:=run_slice_at (P:=P) (w:=w) he hs (some ⟨b,0*s,none⟩) len cap0 (some (.int .i64 (lo:Int))) (some (.int .i64 (hi:Int))) lo hi (.inr ⟨_,rfl⟩) (.inr ⟨_,rfl⟩) (by omega) (by omega)
 rw [addr_if b (0*s) cap0 lo s (.inl (by omega)),Nat.zero_mul,Nat.zero_add]at hrun
 rw [Nat.zero_mul]at k5
 rw [←h1',←h2',←k5]at hrun
 exact wp_value (u:=.slice (some ⟨b,lo*s,none⟩) (hi-lo) (cap0-lo)) (w':=w) (by unfold execOp;simp [hrun]) (hK _ _ (hk _ _ ⟨η,γ,hI.put d _ _ hN (RepV.one_iff.2 ⟨fl,e,s,rows,hb,by omega,.inr ⟨b,cap0,cap0-lo,ho,rfl,by omega,by omega,by omega⟩⟩)⟩))
end
theorem delVal_s:DelBy Tryz.prog 228 cVal 76 2:=by
 intro b cap cur l k w hkl hgl hh hlc hcap hsz htk hl62 hone
 refine enterDl (s:=2) Tryz.func228 rfl Tryz.ntmps228 (by decide) (fun _=>rfl) hgl hh hlc hcap hsz htk hone ?_
 have hΓ:=eN
 have hlen:=rowsF_len cVal l
 have hel:(l.eraseIdx k).length=l.length-1:=List.length_eraseIdx_of_lt hkl
 clear htk hone hcap hlc hgl
 simp only [initDl]
 have hk0:¬(k:Int)=(k:Int)+1:=by omega
 have hk1:((k:Int)+1).toNat=k+1:=by omega
 have hks:k-0=k:=Nat.sub_zero k
 refine zV ?_
 refine WL.opSl3 (e:=76) (s:=2) (e':=76) (s':=2) (n:=999) (l:=k) (h:=k+1) (m:=l.length) (fl:=.ft) (rows:=rowsF cVal l) (he:=?e1) (hs:=?e2) (hp:=?e3) (hb:=?e4) (h1:=?e5) (h2:=?e6) (h3:=?e7) (by omega) (by omega) (by omega) (by decide) ?_
 case e1=>simp only [TY]
 case e2=>simp only [TY]
 case e3=>exact evsP
 case e4=>exact evsP
 case e5=>exact evsP
 case e6=>
  rw [show((k+1:Nat):Int)=(k:Int)+1 by omega]
  exact evsP
 case e7=>exact evsP
 refine zQ ?_
 by_cases hlast:k+1<l.length
 ·refine W.drawB hΓ 6 [[],[],[0,1],[],[],[3,4],[0,1,2,3,4,5],[0,1,2,3,4,5,6]] (Es:=?EsD) (rest:=?restD) (st1:=?st1D) ?_
  refine WL.opAppIn (e:=76) (s:=2) (n:=999) (i:=k) (off:=k+1) (len:=l.length-(k+1)) (fl:=.ft) (rows:=rowsF cVal l) (he:=?f1) (hs:=?f2) (hp:=?f3) (hq:=?f4) (hb:=?f5) rfl (by omega) (by omega) (by omega) (by decide) ?_
  case f1=>simp only [TY]
  case f2=>simp only [TY]
  case f3=>exact evsP
  case f4=>exact evsP
  case f5=>exact evsP
  have hm:k+(l.length-(k+1))=l.length-1:=by omega
  have hR:(rowsF cVal l).take k++((rowsF cVal l).drop (k+1)).take (l.length-(k+1))++(rowsF cVal l).drop (k+(l.length-(k+1)))=rowsF cVal (l.eraseIdx k)++(rowsF cVal l).drop (l.length-1):=by
   rw [hm]
   congr 1
   unfold rowsF
   rw [List.take_of_length_le (i:=l.length-(k+1)) (by simp),←List.map_take,←List.map_drop,←List.map_append,List.eraseIdx_eq_take_drop_succ]
  have hRl:(rowsF cVal (l.eraseIdx k)++(rowsF cVal l).drop (l.length-1)).length=l.length:=by
   rw [List.length_append,rowsF_len,hel,List.length_drop,hlen];omega
  have hRt:(rowsF cVal (l.eraseIdx k)++(rowsF cVal l).drop (l.length-1)).take (l.length-1)=rowsF cVal (l.eraseIdx k):=by
   rw [List.take_append_of_le_length (by rw [rowsF_len,hel];exact Nat.le_refl _),List.take_of_length_le (by rw [rowsF_len,hel];exact Nat.le_refl _)]
  rw [hR,hm]
  generalize rowsF cVal (l.eraseIdx k)++(rowsF cVal l).drop (l.length-1)=RR at*
  clear hR
  refine zM ?_
  refine zV ?_
  refine WL.opSlC (e:=76) (s:=2) (n:=999) (len:=l.length-1) (lo:=l.length-1) (hi:=l.length) (fl:=.ft) (rows:=RR) (he:=?g1) (hs:=?g2) (hp:=?g3) (hb:=?g4) (h1:=?g5) (h2:=?g6) (by omega) (by omega) (by decide) ?_
  case g1=>simp only [TY]
  case g2=>simp only [TY]
  case g3=>exact evsP
  case g4=>exact evsP
  case g5=>exact evsP
  case g6=>exact evsP
  refine WL.opClear (n:=999) (off:=l.length-1) (len:=l.length-(l.length-1)) (fl:=.ft) (s:=2) (e:=76) (rows:=RR) (z:=.agg #[.int .i64 0,.int .i64 0]) (zs:=[.int .i64 0,.int .i64 0]) ?hp (by omega) ?hb (by omega) ?he ?hz rfl rfl (fun v hv=>by simp only [List.mem_cons,List.not_mem_nil,or_false]at hv;rcases hv with rfl|rfl<;>rfl) (by decide) (by rfl) ?_
  case hp=>exact evsP
  case hb=>exact evsP
  case he=>simp only [TY]
  case hz=>simp only [TY]
  intro rows' hr1 hr2
  have hr3:rows'.take (l.length-1)=rowsF cVal (l.eraseIdx k):=by rw [hr2,hRt]
  have hr4:rows'.length=l.length:=by rw [hr1,hRl]
  refine zQ ?_
  refine At.retCut (t:=6) (m:=l.length-1) _ (by decide) (by decide) ?_ hh hsz (by omega) (.inr rfl) rfl hr3 (by omega)
  rw [Tryz.results228]
 ·have he:k+1=l.length:=by omega
  have hz:(l.length:Int)=(k:Int)+1:=by omega
  have hEr:l.eraseIdx k=l.take k:=by
   rw [List.eraseIdx_eq_take_drop_succ,he,List.drop_length,List.append_nil]
  refine W.drawB hΓ 6 [[],[],[0,1],[],[],[3,4],[0,1,2,3,4,5],[0,1,2,3,4,5,6]] (Es:=?EsE) (rest:=?restE) (st1:=?st1E) ?_
  refine WL.opApp0 (e:=76) (s:=2) (n:=999) (i:=k) (he:=?f1b) (hs:=?f2b) (hp:=?f3b) (hq:=?f4b) (by decide) ?_
  case f1b=>simp only [TY]
  case f2b=>simp only [TY]
  case f3b=>exact evsP
  case f4b=>exact evsP
  refine zM ?_
  refine zV ?_
  refine WL.opSlC (e:=76) (s:=2) (n:=999) (len:=k) (lo:=k) (hi:=l.length) (fl:=.ft) (rows:=rowsF cVal l) (he:=?g1b) (hs:=?g2b) (hp:=?g3b) (hb:=?g4b) (h1:=?g5b) (h2:=?g6b) (by omega) (by omega) (by decide) ?_
  case g1b=>simp only [TY]
  case g2b=>simp only [TY]
  case g3b=>exact evsP
  case g4b=>exact evsP
  case g5b=>exact evsP
  case g6b=>exact evsP
  refine WL.opClear (n:=999) (off:=k) (len:=l.length-k) (fl:=.ft) (s:=2) (e:=76) (rows:=rowsF cVal l) (z:=.agg #[.int .i64 0,.int .i64 0]) (zs:=[.int .i64 0,.int .i64 0]) ?hpb (by omega) ?hbb (by omega) ?heb ?hzb rfl rfl (fun v hv=>by simp only [List.mem_cons,List.not_mem_nil,or_false]at hv;rcases hv with rfl|rfl<;>rfl) (by decide) (by rfl) ?_
  case hpb=>exact evsP
  case hbb=>exact evsP
  case heb=>simp only [TY]
  case hzb=>simp only [TY]
  intro rows' hr1 hr2
  have hr3:rows'.take k=rowsF cVal (l.eraseIdx k):=by
   rw [hr2,hEr]
   unfold rowsF
   rw [List.map_take]
  have hr4:rows'.length=l.length:=by rw [hr1,hlen]
  refine zQ ?_
  refine At.retCut (t:=6) (m:=k) _ (by decide) (by decide) ?_ hh hsz (by omega) (.inr rfl) rfl hr3 (by omega)
  rw [Tryz.results228]
theorem delPeer_s:DelBy Tryz.prog 194 cPeer 209 4:=by
 intro b cap cur l k w hkl hgl hh hlc hcap hsz htk hl62 hone
 refine enterDl (s:=4) Tryz.func194 rfl Tryz.ntmps194 (by decide) (fun _=>rfl) hgl hh hlc hcap hsz htk hone ?_
 have hΓ:=eN
 have hlen:=rowsF_len cPeer l
 have hel:(l.eraseIdx k).length=l.length-1:=List.length_eraseIdx_of_lt hkl
 clear htk hone hcap hlc hgl
 simp only [initDl]
 have hk0:¬(k:Int)=(k:Int)+1:=by omega
 have hk1:((k:Int)+1).toNat=k+1:=by omega
 have hks:k-0=k:=Nat.sub_zero k
 refine zV ?_
 refine WL.opSl3 (e:=209) (s:=4) (e':=209) (s':=4) (n:=999) (l:=k) (h:=k+1) (m:=l.length) (fl:=.ft) (rows:=rowsF cPeer l) (he:=?e1) (hs:=?e2) (hp:=?e3) (hb:=?e4) (h1:=?e5) (h2:=?e6) (h3:=?e7) (by omega) (by omega) (by omega) (by decide) ?_
 case e1=>simp only [TY]
 case e2=>simp only [TY]
 case e3=>exact evsP
 case e4=>exact evsP
 case e5=>exact evsP
 case e6=>
  rw [show((k+1:Nat):Int)=(k:Int)+1 by omega]
  exact evsP
 case e7=>exact evsP
 refine zQ ?_
 by_cases hlast:k+1<l.length
 ·refine W.drawB hΓ 6 [[],[],[0,1],[],[],[3,4],[0,1,2,3,4,5],[0,1,2,3,4,5,6]] (Es:=?EsD) (rest:=?restD) (st1:=?st1D) ?_
  refine WL.opAppIn (e:=209) (s:=4) (n:=999) (i:=k) (off:=k+1) (len:=l.length-(k+1)) (fl:=.ft) (rows:=rowsF cPeer l) (he:=?f1) (hs:=?f2) (hp:=?f3) (hq:=?f4) (hb:=?f5) rfl (by omega) (by omega) (by omega) (by decide) ?_
  case f1=>simp only [TY]
  case f2=>simp only [TY]
  case f3=>exact evsP
  case f4=>exact evsP
  case f5=>exact evsP
  have hm:k+(l.length-(k+1))=l.length-1:=by omega
  have hR:(rowsF cPeer l).take k++((rowsF cPeer l).drop (k+1)).take (l.length-(k+1))++(rowsF cPeer l).drop (k+(l.length-(k+1)))=rowsF cPeer (l.eraseIdx k)++(rowsF cPeer l).drop (l.length-1):=by
   rw [hm]
   congr 1
   unfold rowsF
   rw [List.take_of_length_le (i:=l.length-(k+1)) (by simp),←List.map_take,←List.map_drop,←List.map_append,List.eraseIdx_eq_take_drop_succ]
  have hRl:(rowsF cPeer (l.eraseIdx k)++(rowsF cPeer l).drop (l.length-1)).length=l.length:=by
   rw [List.length_append,rowsF_len,hel,List.length_drop,hlen];omega
  have hRt:(rowsF cPeer (l.eraseIdx k)++(rowsF cPeer l).drop (l.length-1)).take (l.length-1)=rowsF cPeer (l.eraseIdx k):=by
   rw [List.take_append_of_le_length (by rw [rowsF_len,hel];exact Nat.le_refl _),List.take_of_length_le (by rw [rowsF_len,hel];exact Nat.le_refl _)]
  rw [hR,hm]
  generalize rowsF cPeer (l.eraseIdx k)++(rowsF cPeer l).drop (l.length-1)=RR at*
  clear hR
  refine zM ?_
  refine zV ?_
  refine WL.opSlC (e:=209) (s:=4) (n:=999) (len:=l.length-1) (lo:=l.length-1) (hi:=l.length) (fl:=.ft) (rows:=RR) (he:=?g1) (hs:=?g2) (hp:=?g3) (hb:=?g4) (h1:=?g5) (h2:=?g6) (by omega) (by omega) (by decide) ?_
  case g1=>simp only [TY]
  case g2=>simp only [TY]
  case g3=>exact evsP
  case g4=>exact evsP
  case g5=>exact evsP
  case g6=>exact evsP
  refine WL.opClear (n:=999) (off:=l.length-1) (len:=l.length-(l.length-1)) (fl:=.ft) (s:=4) (e:=209) (rows:=RR) (z:=.agg #[.int .i64 0,.bool false,.int .i64 0,.int .i64 0]) (zs:=[.int .i64 0,.bool false,.int .i64 0,.int .i64 0]) ?hp (by omega) ?hb (by omega) ?he ?hz rfl rfl (fun v hv=>by simp only [List.mem_cons,List.not_mem_nil,or_false]at hv;rcases hv with rfl|rfl|rfl|rfl<;>rfl) (by decide) (by rfl) ?_
  case hp=>exact evsP
  case hb=>exact evsP
  case he=>simp only [TY]
  case hz=>simp only [TY]
  intro rows' hr1 hr2
  have hr3:rows'.take (l.length-1)=rowsF cPeer (l.eraseIdx k):=by rw [hr2,hRt]
  have hr4:rows'.length=l.length:=by rw [hr1,hRl]
  refine zQ ?_
  refine At.retCut (t:=6) (m:=l.length-1) _ (by decide) (by decide) ?_ hh hsz (by omega) (.inr rfl) rfl hr3 (by omega)
  rw [Tryz.results194]
 ·have he:k+1=l.length:=by omega
  have hz:(l.length:Int)=(k:Int)+1:=by omega
  have hEr:l.eraseIdx k=l.take k:=by
   rw [List.eraseIdx_eq_take_drop_succ,he,List.drop_length,List.append_nil]
  refine W.drawB hΓ 6 [[],[],[0,1],[],[],[3,4],[0,1,2,3,4,5],[0,1,2,3,4,5,6]] (Es:=?EsE) (rest:=?restE) (st1:=?st1E) ?_
  refine WL.opApp0 (e:=209) (s:=4) (n:=999) (i:=k) (he:=?f1b) (hs:=?f2b) (hp:=?f3b) (hq:=?f4b) (by decide) ?_
  case f1b=>simp only [TY]
  case f2b=>simp only [TY]
  case f3b=>exact evsP
  case f4b=>exact evsP
  refine zM ?_
  refine zV ?_
  refine WL.opSlC (e:=209) (s:=4) (n:=999) (len:=k) (lo:=k) (hi:=l.length) (fl:=.ft) (rows:=rowsF cPeer l) (he:=?g1b) (hs:=?g2b) (hp:=?g3b) (hb:=?g4b) (h1:=?g5b) (h2:=?g6b) (by omega) (by omega) (by decide) ?_
  case g1b=>simp only [TY]
  case g2b=>simp only [TY]
  case g3b=>exact evsP
  case g4b=>exact evsP
  case g5b=>exact evsP
  case g6b=>exact evsP
  refine WL.opClear (n:=999) (off:=k) (len:=l.length-k) (fl:=.ft) (s:=4) (e:=209) (rows:=rowsF cPeer l) (z:=.agg #[.int .i64 0,.bool false,.int .i64 0,.int .i64 0]) (zs:=[.int .i64 0,.bool false,.int .i64 0,.int .i64 0]) ?hpb (by omega) ?hbb (by omega) ?heb ?hzb rfl rfl (fun v hv=>by simp only [List.mem_cons,List.not_mem_nil,or_false]at hv;rcases hv with rfl|rfl|rfl|rfl<;>rfl) (by decide) (by rfl) ?_
  case hpb=>exact evsP
  case hbb=>exact evsP
  case heb=>simp only [TY]
  case hzb=>simp only [TY]
  intro rows' hr1 hr2
  have hr3:rows'.take k=rowsF cPeer (l.eraseIdx k):=by
   rw [hr2,hEr]
   unfold rowsF
   rw [List.map_take]
  have hr4:rows'.length=l.length:=by rw [hr1,hlen]
  refine zQ ?_
  refine At.retCut (t:=6) (m:=k) _ (by decide) (by decide) ?_ hh hsz (by omega) (.inr rfl) rfl hr3 (by omega)
  rw [Tryz.results194]
end
section
theorem wrap_u8_ex:∃g:Int→Nat,(∀n,IntKind.u8.wrap n=((g n:Nat):Int))∧∀n,g n<256:=by
 refine⟨fun n=>(n%256).toNat,fun n=>?_,fun n=>?_⟩
 ·have:IntKind.u8.wrap n=n%256:=by simp [IntKind.wrap,IntKind.bits,IntKind.signed]
  rw [this]
  show n%256=(((n%256).toNat:Nat):Int)
  omega
 ·show(n%256).toNat<256
  omega
theorem CodeOk.le {bs:List Nat}(h:bs.length≤1048576)(hb:∀n∈bs,n<256):CodeOk bs:=⟨hb,by omega⟩
noncomputable def mBig:=mdl (fun bs:List Nat=>bs.length≤9223372036854775807) (fun bs=>[aL cU8 bs]) (fun bs=>rB (decide (1048576<bs.length)))
theorem rowsF_U8 {a b:List Nat}:rowsF cU8 a=rowsF cU8 b↔a=b:=rowsF_iff fun x y h=>by
 simp only [cU8,List.cons.injEq,Value.int.injEq,and_true,true_and]at h
 omega
theorem mBig_eq (bs:List Nat)(h:bs.length≤9223372036854775807):mBig [aL cU8 bs]=some (rB (decide (1048576<bs.length))):=mdl_eq (by intro a b h;simpa [rowsF_U8]using h) bs h
theorem big_s:Sound Tryz.prog 8 mBig:=by
 refine Sound.mdl Tryz.func8 rfl Tryz.ntmps8 ?_
 rintro bs w hl
 refine⟨by simp,?_⟩
 replace hl:bs.length≤9223372036854775807:=hl
 have hΓ:=eN
 refine zJ ?_
 refine At.retA (by rw [Tryz.results8]) (he:=?_)
 by_cases h:1048576<bs.length
 ·have h2:(1048576:Int)<bs.length:=by omega
  simp [h,h2]
 ·have h2:¬(1048576:Int)<bs.length:=by omega
  simp [h,h2]
end
end Go.Proofs.YtfgkfcfplodaoaaGreatDoor
