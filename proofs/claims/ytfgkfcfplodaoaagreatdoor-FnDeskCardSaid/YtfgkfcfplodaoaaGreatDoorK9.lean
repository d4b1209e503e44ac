/-
  Put together out of 3 texts.
-/
import Derived.Test.YtfgkfcfplodaoaaGreatDoorK0
import Derived.Test.YtfgkfcfplodaoaaGreatDoorK4
import Derived.Test.YtfgkfcfplodaoaaGreatDoorG17
import Derived.Test.YtfgkfcfplodaoaaGreatDoorG18
import Derived.Test.YtfgkfcfplodaoaaGreatDoorG12
import Derived.Test.YtfgkfcfplodaoaaGreatDoorSortL
set_option linter.unusedSimpArgs false
set_option linter.unusedVariables false
set_option maxRecDepth 100000
set_option maxHeartbeats 8000000
namespace Go.Proofs.YtfgkfcfplodaoaaGreatDoor
open Go Go.RowKit
section
open Go Go.RowKit Go.Shelf Go.Sort
def cmpV (x y:TVal):Int:=if x.1<y.1 then-1 else 1
theorem cmpV_lt (x y:TVal):cmpV x y<0↔x.1<y.1:=by
 unfold cmpV
 split<;>simp [*]
theorem cmpV_swo:SWO (ltOf cmpV) where
 irrefl x:=by simp only [ltOf,decide_eq_false_iff_not,cmpV_lt];omega
 trans x y z h1 h2:=by simp only [ltOf,decide_eq_true_eq,cmpV_lt]at*;omega
 ntrans x y z h1 h2:=by simp only [ltOf,decide_eq_false_iff_not,cmpV_lt]at*;omega
theorem compareV_says:CmpSays Tryz.prog 230 cVal cmpV:=by
 rintro⟨a1,a2⟩ ⟨b1,b2⟩ w
 show Calls _ _ #[.agg #[.int .i64 a1,.int .i64 a2],.agg #[.int .i64 b1,.int .i64 b2]] w _
 unfold cmpV
 dsimp only
 by_cases h:a1<b1
 ·rw [if_pos h]
  go_enter Tryz.func230,Tryz.ntmps230
  go_wp2
  go_ret
  exact⟨rfl,_,by rw [alloc_eq_grow,alloc_eq_grow,grow_grow]⟩
 ·rw [if_neg h]
  go_enter Tryz.func230,Tryz.ntmps230
  go_wp2
  go_ret
  exact⟨rfl,_,by rw [alloc_eq_grow,alloc_eq_grow,grow_grow]⟩
theorem sortV_s:SortsBy Tryz.prog 229 230 cVal 2 cmpV:=
 haveI:Inhabited TVal:=⟨(0,0)⟩
 sorts_of Tryz.sortVal Tryz.isAgg76 Tryz.sizeOf76 (fun _=>rfl) (fun x v hv=>by simp only [cVal,List.mem_cons,List.not_mem_nil,or_false]at hv;rcases hv with rfl|rfl<;>rfl) cmpV cmpV_swo (enters_of Tryz.func230 (by kernel_rfl) rfl) compareV_says
abbrev aVal (p:TVal):Arg:=.val true [.sc (.int .i64 p.1),.sc (.int .i64 p.2)]
noncomputable def mIdV (x:TVal):=mdl (fun _:TVal=>True) (fun v=>[aVal v,.row [.sc (.int .i64 x.1),.sc (.int .i64 x.2)] 0]) (fun v=>rB (decide (v.1=x.1)))
theorem mIdV_eq (x v:TVal):mIdV x [aVal v,.row [.sc (.int .i64 x.1),.sc (.int .i64 x.2)] 0]=some (rB (decide (v.1=x.1))):=mdl_eq (by
 rintro⟨a,b⟩ ⟨a',b'⟩ h
 simp at h
 simp [h]) v trivial
theorem idV_s (x:TVal):Sound Tryz.prog 227 (mIdV x):=by
 obtain⟨x1,x2⟩:=x
 refine Sound.mdl Tryz.func227 rfl Tryz.ntmps227 ?_
 rintro⟨a,b⟩ w-
 refine⟨by simp,?_⟩
 have hΓ:=eN
 refine zJ ?_
 refine At.retA (by rw [Tryz.results227]) (he:=rfl)
noncomputable def mIdxV (f:FuncId)(boxes:List (List Leaf))(p:TVal→Bool):=mdl (fun l:List TVal=>l.length≤8796093022207) (fun l=>[aL cVal l,.clo f boxes]) (fun l=>rI (idxP p l))
theorem mIdxV_eq (f:FuncId)(boxes:List (List Leaf))(p:TVal→Bool)(l:List TVal)(h:l.length≤8796093022207):mIdxV f boxes p [aL cVal l,.clo f boxes]=some (rI (idxP p l)):=mdl_eq (by intro a b h;simpa using h) l h
theorem cVal_rowAt (l:List TVal)(k:Nat)(h:k<l.length):(rowsF cVal l)[k]?=some [.sc (.int .i64 l[k].1),.sc (.int .i64 l[k].2)]:=rowsF_get cVal l k h
theorem idxV_s {f:FuncId}{boxes:List (List Leaf)}{p:TVal→Bool}{mf:List Arg→Option Res}(hf:Has Tryz.prog f)(hs:Sound Tryz.prog f mf)(hm:∀x,mf ([aVal x]++boxes.map fun c=>.row c 0)=some (rB (p x))):Sound Tryz.prog 226 (mIdxV f boxes p):=by
 refine Sound.mdl Tryz.func226 rfl Tryz.ntmps226 ?_
 rintro l w hl
 refine⟨by simp,?_⟩
 replace hl:l.length≤8796093022207:=hl
 have hΓ:GSound Tryz.prog (look [(f,mf)]):=env_cons hf hs env_nil
 clear hs hf
 have hlen:=rowsF_len cVal l
 refine zJ ?_
 refine W.loopA (fun k=>k≤l.length∧∀j,(h:j<k)→∀hj:j<l.length,p l[j]=false) (fun k:Nat=>[.slot 8 (vI k),.slot 7 (vI l.length),.slot 0 (vL cVal l),.slot 1 (one (.clo f boxes))]) (fun k=>l.length-k) 0 ⟨Nat.zero_le _,fun j hj=>by omega⟩ (h:=?_)
 rintro k ⟨hk,hn⟩
 by_cases hlt:k<l.length
 ·have hrow:=cVal_rowAt l k hlt
  have hm:=hm l[k]
  simp only [List.cons_append,List.nil_append]at hm
  cases hp:p l[k]with
  |true=>
   have hv:=idxP_at (p:=p) hlt (fun j hj=>hn j hj _) hp
   rw [hp]at hm
   clear hn hp
   generalize l[k]=x at hrow hm
   obtain⟨x1,x2⟩:=x
   dsimp only [aVal]at hm hrow
   refine zR ?_
   refine At.retA (by rw [Tryz.results226]) (he:=?_)
   rw [hv]
  |false=>
   have hnx:∀j,(h:j<k+1)→∀hj:j<l.length,p l[j]=false:=fun j h hj=>by
    rcases Nat.lt_or_ge j k with h1|h1
    ·exact hn j h1 hj
    ·have:j=k:=by omega
     subst this
     exact hp
   rw [hp]at hm
   clear hn hp
   generalize l[k]=x at hrow hm
   obtain⟨x1,x2⟩:=x
   dsimp only [aVal]at hm hrow
   refine zR ?_
   exact At.roundA (k+1) ⟨by omega,hnx⟩ (by omega)
 ·have hv:=idxP_no (p:=p) (l:=l) (fun j hj=>hn j (by omega) hj)
  clear hn
  refine zR ?_
  refine At.retA (by rw [Tryz.results226]) (he:=?_)
  rw [hv]
theorem chVI_s:Sound Tryz.prog 181 mChV:=by
 refine Sound.mdl Tryz.func181 rfl Tryz.ntmps181 ?_
 rintro⟨l,a,p⟩ w hl
 refine⟨by simp,?_⟩
 replace hl:l.length≤1048576:=hl
 have hΓ:GSound Tryz.prog (look [(168,mVals),(70,mCopyV),(226,mIdxV 227 [[.sc (.int .i64 a),.sc (.int .i64 p)]] (fun v=>decide (v.1=a)))]):=env_cons (hsO Tryz.func168) valsI_s (env_cons (hsO Tryz.func70) copyV_s (env_cons (hsO Tryz.func226) (idxV_s (hsO Tryz.func227) (idV_s (a,p)) (fun v=>mIdV_eq (a,p) v)) env_nil))
 have hDl:Has Tryz.prog 228:=hsO Tryz.func228
 have hSo:Has Tryz.prog 229:=hsO Tryz.func229
 have hlen:=rowsF_len cVal l
 have c1:=mVals_eq l (by omega)
 have c2:=mCopyV_eq l hl
 have c4:=mIdxV_eq 227 [[.sc (.int .i64 a),.sc (.int .i64 p)]] (fun v=>decide (v.1=a)) l (by omega)
 have hrw:rowsF cVal [(a,p)]=[[.sc (.int .i64 a),.sc (.int .i64 p)]]:=rfl
 have hrow:(rowsF cVal [(a,p)])[0]?=some [.sc (.int .i64 a),.sc (.int .i64 p)]:=rfl
 by_cases h1:valsOk l
 ·rw [decide_eq_true h1]at c1
  have hl7:l.length≤7:=h1.1.2
  have hasc:=valsOk_asc h1
  have hv:chV l (a,p)=if chgB l (a,p)=true∧valsOk (chg l (a,p))then(chg l (a,p),true)else(l,false):=by unfold chV;simp only [h1,true_and]
  have hgl:=chg_len l (a,p)
  have c3:=mVals_eq (chg l (a,p)) (by omega)
  clear h1
  rcases idxP_cases' (fun v:TVal=>decide (v.1=a)) l with⟨k,hk,e1,e2,-⟩|⟨e1,e2⟩
  ·replace e2:l[k].1=a:=of_decide_eq_true e2
   have hb:chgB l (a,p)=true:=chgB_at hk e2
   rw [hb]at hv
   rw [e1]at c4
   clear hb e1
   by_cases h0:p=0
   ·have hso:=fun(l':List TVal) h1 h2=>sort_erase (x:=(a,p)) (l':=l') hasc hk e2 h0 h1 h2
    have hml:(l.eraseIdx k).length≤l.length:=List.length_eraseIdx_le _ _
    subst h0
    clear hasc e2
    obtain⟨m,hm⟩:∃m,l.eraseIdx k=m:=⟨_,rfl⟩
    rw [hm]at hso hml
    obtain⟨J,hJ0,hJs⟩:=twoC (α:=St) [.slot 19 (vI ((0:Nat):Int)),.slot 18 (vI ((1:Nat):Int)),.slot 17 (vL cVal [(a,0)]),.slot 6 (one (.all 16)),.blk 16 (.arr .ft 76 2 (rowsF cVal l)),.slot 0 (vL cVal l)] (fun k=>[.slot 19 (vI ((k+1:Nat):Int)),.slot 18 (vI ((1:Nat):Int)),.slot 17 (vL cVal [(a,0)]),.slot 6 (one (.all 16)),.blk 16 (.arr .ft 76 2 (rowsF cVal m)),.slot 0 (vL cVal l)])
    have hj1:=hJs 0
    rw [Nat.zero_add]at hj1
    clear hJs
    refine zJ ?_
    refine W.loopA (fun k=>k≤1) J (fun k=>1-k) 0 (Nat.zero_le _) (hs:=?_) (h:=?_)
    ·rw [hJ0]
     exact subP
    intro k' hk'
    rcases(by omega:k'=0∨k'=1)with rfl|rfl
    ·rw [hJ0]
     clear hk' hv c3 hso
     refine zV ?_
     refine WL.opDel (n:=16) (enc:=cVal) (s:=2) (e:=76) (fl:=.ft) hDl delVal_s (fun _=>rfl) l k hk (by omega) (by decide) (by decide) (hp:=?q1) (h1:=?q2) (h2:=?q3) (hb:=?q4) ?_
     case q1=>exact evsP
     case q2=>exact evsP
     case q3=>exact evsP
     case q4=>exact evsP
     rw [hm]
     refine zQ ?_
     refine At.roundA 1 (by omega) (by omega) (hs:=?_)
     rw [hj1]
     exact subP
    ·rw [hj1]
     clear hJ0 hj1 hk'
     refine zV ?_
     refine WL.opSortA hSo sortV_s (fun _=>rfl) m (by omega) (h:=?_)
     intro l' hl1 hl2
     have hl':=hso l' hl1 (hl2.imp fun {x y} h=>by rw [cmpV_lt]at h;exact h)
     rw [hl']
     clear hl1 hl2 hso
     generalize chg l (a,0)=o at*
     by_cases h2:valsOk o
     ·rw [decide_eq_true h2]at c3
      rw [if_pos ⟨rfl,h2⟩]at hv
      replace hv:=Lib.hid hv
      clear h2
      refine zQ ?_
      refine At.retA (by rw [Tryz.results181]) (he:=?_)
      rw [hv.out]
     ·rw [decide_eq_false h2]at c3
      rw [if_neg (by simp [h2])]at hv
      replace hv:=Lib.hid hv
      clear h2
      refine zQ ?_
      refine At.retA (by rw [Tryz.results181]) (he:=?_)
      rw [hv.out]
   ·have hso:=fun(l':List TVal) h1 h2=>sort_set (x:=(a,p)) (l':=l') hasc hk e2 h0 h1 h2
    have hml:(l.set k (a,p)).length=l.length:=List.length_set
    have hrk:=cVal_rowAt l k hk
    have hset:(rowsF cVal l).set k [.sc (.int .i64 a),.sc (.int .i64 p)]=rowsF cVal (l.set k (a,p)):=by unfold rowsF;rw [List.map_set];rfl
    rw [e2]at hrk
    obtain⟨b,hb⟩:∃b,l[k].2=b:=⟨_,rfl⟩
    rw [hb]at hrk
    clear hasc e2 hb
    obtain⟨m,hm⟩:∃m,l.set k (a,p)=m:=⟨_,rfl⟩
    rw [hm]at hso hml hset
    clear hm
    obtain⟨J,hJ0,hJs⟩:=twoC (α:=St) [.slot 19 (vI ((0:Nat):Int)),.slot 18 (vI ((1:Nat):Int)),.slot 17 (vL cVal [(a,p)]),.slot 6 (one (.all 16)),.blk 16 (.arr .ft 76 2 (rowsF cVal l)),.slot 0 (vL cVal l)] (fun k=>[.slot 19 (vI ((k+1:Nat):Int)),.slot 18 (vI ((1:Nat):Int)),.slot 17 (vL cVal [(a,p)]),.slot 6 (one (.all 16)),.blk 16 (.arr .ft 76 2 (rowsF cVal m)),.slot 0 (vL cVal l)])
    have hj1:=hJs 0
    rw [Nat.zero_add]at hj1
    clear hJs
    refine zJ ?_
    refine W.loopA (fun k=>k≤1) J (fun k=>1-k) 0 (Nat.zero_le _) (hs:=?_) (h:=?_)
    ·rw [hJ0]
     exact subP
    intro k' hk'
    rcases(by omega:k'=0∨k'=1)with rfl|rfl
    ·rw [hJ0]
     clear hk' hv c3 hso
     refine zR ?_
     refine At.roundA 1 (by omega) (by omega) (hs:=?_)
     rw [hj1]
     exact subP
    ·rw [hj1]
     clear hJ0 hj1 hk'
     refine zV ?_
     refine WL.opSortA hSo sortV_s (fun _=>rfl) m (by omega) (h:=?_)
     intro l' hl1 hl2
     have hl':=hso l' hl1 (hl2.imp fun {x y} h=>by rw [cmpV_lt]at h;exact h)
     rw [hl']
     clear hl1 hl2 hso
     generalize chg l (a,p)=o at*
     by_cases h2:valsOk o
     ·rw [decide_eq_true h2]at c3
      rw [if_pos ⟨rfl,h2⟩]at hv
      replace hv:=Lib.hid hv
      clear h2
      refine zQ ?_
      refine At.retA (by rw [Tryz.results181]) (he:=?_)
      rw [hv.out]
     ·rw [decide_eq_false h2]at c3
      rw [if_neg (by simp [h2])]at hv
      replace hv:=Lib.hid hv
      clear h2
      refine zQ ?_
      refine At.retA (by rw [Tryz.results181]) (he:=?_)
      rw [hv.out]
  ·have e2':∀v∈l,¬v.1=a:=fun v hv=>by
    obtain⟨j,hj,rfl⟩:=List.getElem_of_mem hv
    exact of_decide_eq_false (e2 j hj)
   have hb:chgB l (a,p)=!decide (p=0):=chgB_no e2'
   rw [hb]at hv
   rw [e1]at c4
   clear hb e1 e2
   by_cases h0:p=0
   ·rw [decide_eq_true h0,if_neg (by simp)]at hv
    replace hv:=Lib.hid hv
    subst h0
    clear c3 hasc
    refine zJ ?_
    refine W.loopA (fun k=>k=0) (fun k:Nat=>[.slot 19 (vI k),.slot 18 (vI ((1:Nat):Int)),.slot 17 (vL cVal [(a,0)]),.slot 6 (one (.all 16)),.blk 16 (.arr .ft 76 2 (rowsF cVal l)),.slot 0 (vL cVal l)]) (fun k=>1-k) 0 rfl (h:=?_)
    rintro k' rfl
    refine zR ?_
    refine At.retA (by rw [Tryz.results181]) (he:=?_)
    rw [hv.out]
   ·rw [decide_eq_false h0]at hv
    replace hv:chV l (a,p)=if true=true∧valsOk (chg l (a,p))then(chg l (a,p),true)else(l,false):=hv
    have hso:=fun(l':List TVal) h1 h2=>sort_app (x:=(a,p)) (l':=l') hasc e2' h0 h1 h2
    have hml:(l++[(a,p)]).length=l.length+1:=by simp
    have happ:rowsF cVal l++[[.sc (.int .i64 a),.sc (.int .i64 p)]]=rowsF cVal (l++[(a,p)]):=by rw [←rowsF_app];rfl
    clear hasc e2'
    obtain⟨m,hm⟩:∃m,l++[(a,p)]=m:=⟨_,rfl⟩
    rw [hm]at hso hml happ
    clear hm
    obtain⟨J,hJ0,hJs⟩:=twoC (α:=St) [.slot 19 (vI ((0:Nat):Int)),.slot 18 (vI ((1:Nat):Int)),.slot 17 (vL cVal [(a,p)]),.slot 6 (one (.all 16)),.blk 16 (.arr .ft 76 2 (rowsF cVal l)),.slot 0 (vL cVal l)] (fun k=>[.slot 19 (vI ((k+1:Nat):Int)),.slot 18 (vI ((1:Nat):Int)),.slot 17 (vL cVal [(a,p)]),.slot 6 (one (.all 16)),.blk 16 (.arr .ft 76 2 (rowsF cVal m)),.slot 0 (vL cVal l)])
    have hj1:=hJs 0
    rw [Nat.zero_add]at hj1
    clear hJs
    refine zJ ?_
    refine W.loopA (fun k=>k≤1) J (fun k=>1-k) 0 (Nat.zero_le _) (hs:=?_) (h:=?_)
    ·rw [hJ0]
     exact subP
    intro k' hk'
    rcases(by omega:k'=0∨k'=1)with rfl|rfl
    ·rw [hJ0]
     clear hk' hv c3 hso
     refine zR ?_
     refine At.roundA 1 (by omega) (by omega) (hs:=?_)
     rw [hj1]
     exact subP
    ·rw [hj1]
     clear hJ0 hj1 hk'
     refine zV ?_
     refine WL.opSortA hSo sortV_s (fun _=>rfl) m (by omega) (h:=?_)
     intro l' hl1 hl2
     have hl':=hso l' hl1 (hl2.imp fun {x y} h=>by rw [cmpV_lt]at h;exact h)
     rw [hl']
     clear hl1 hl2 hso
     generalize chg l (a,p)=o at*
     by_cases h2:valsOk o
     ·rw [decide_eq_true h2]at c3
      rw [if_pos ⟨rfl,h2⟩]at hv
      replace hv:=Lib.hid hv
      clear h2
      refine zQ ?_
      refine At.retA (by rw [Tryz.results181]) (he:=?_)
      rw [hv.out]
     ·rw [decide_eq_false h2]at c3
      rw [if_neg (by simp [h2])]at hv
      replace hv:=Lib.hid hv
      clear h2
      refine zQ ?_
      refine At.retA (by rw [Tryz.results181]) (he:=?_)
      rw [hv.out]
 ·have hv:chV l (a,p)=(l,false):=if_neg (by simp [h1])
  rw [decide_eq_false h1]at c1
  clear h1 c4
  refine zJ ?_
  refine At.retA (by rw [Tryz.results181]) (he:=?_)
  rw [hv]
end
section
abbrev rowsCm (c:TCommit):List RL:=[.ro (.sc (.int .i64 c.1)),.ro (.sc (.int .i64 c.2.1)),.ro (.sc (.string c.2.2.1)),.own .ft 127 2 (rowsF cCSig c.2.2.2)]
abbrev okBkS (b:TBlock):Prop:=b.2.1.length≤1048576∧b.2.2.1.length≤1048576∧b.2.2.2.2.2.2.length≤1048576
abbrev rowsBk (b:TBlock):List RL:=[.ro (.sc (.int .i64 b.1.1)),.ro (.sc (.int .i64 b.1.2.1)),.ro (.sc (.string b.1.2.2.1)),.ro (.sc (.string b.1.2.2.2.1)),.ro (.sc (.string b.1.2.2.2.2.1)),.ro (.sc (.string b.1.2.2.2.2.2)),.own .ft 76 2 (rowsF cVal b.2.1),.own .ft 76 2 (rowsF cVal b.2.2.1),.ro (.sc (.int .i64 b.2.2.2.1)),.ro (.sc (.int .i64 b.2.2.2.2.1)),.ro (.sc (.string b.2.2.2.2.2.1)),.own .ft 127 2 (rowsF cCSig b.2.2.2.2.2.2)]
noncomputable instance decBk:DecidableEq TBlock:=fun a b=>Classical.propDecidable (a=b)
end
end Go.Proofs.YtfgkfcfplodaoaaGreatDoor
