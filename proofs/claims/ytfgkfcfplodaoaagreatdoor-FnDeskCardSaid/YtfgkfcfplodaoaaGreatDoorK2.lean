/-
  Put together out of 3 texts.
-/
import Derived.Test.YtfgkfcfplodaoaaGreatDoorG24
import Derived.Test.YtfgkfcfplodaoaaGreatDoorK1
import Derived.Test.YtfgkfcfplodaoaaGreatDoorK0
set_option linter.unusedSimpArgs false
set_option linter.unusedVariables false
set_option maxRecDepth 100000
set_option maxHeartbeats 4000000
namespace Go.Proofs.YtfgkfcfplodaoaaGreatDoor
open Go Go.RowKit
section
theorem Sound.again {P:Program}{f:FuncId}{α:Type}{ok:α→Prop}{enc:α→List Arg}{g:α→Res}(μ:α→Nat)(hinj:∀x y,enc x=enc y→x=y)
  (h:∀N,Sound P f (Go.Proofs.YtfgkfcfplodaoaaGreatDoor.mdl (fun x=>ok x∧μ x<N) enc g)→Sound P f (Go.Proofs.YtfgkfcfplodaoaaGreatDoor.mdl (fun x=>ok x∧μ x<N+1) enc g)):Sound P f (Go.Proofs.YtfgkfcfplodaoaaGreatDoor.mdl ok enc g):=by
 have hall:∀N,Sound P f (Go.Proofs.YtfgkfcfplodaoaaGreatDoor.mdl (fun x=>ok x∧μ x<N) enc g):=fun N=>by
  induction N with
  |zero=>
   intro args r vs w _ hm _
   unfold Go.Proofs.YtfgkfcfplodaoaaGreatDoor.mdl at hm
   split at hm
   ·rename_i he
    exact absurd he.choose_spec.1.2 (by omega)
   ·cases hm
  |succ N ih=>exact h N ih
 intro args r vs w hgl hm hargs
 unfold Go.Proofs.YtfgkfcfplodaoaaGreatDoor.mdl at hm
 split at hm
 ·rename_i he
  cases hm
  obtain⟨h2,h3⟩:=he.choose_spec
  refine hall (μ he.choose+1) args _ vs w hgl ?_ hargs
  have:=mdl_eq (ok:=fun x=>ok x∧μ x<μ he.choose+1) (g:=g) hinj he.choose ⟨h2,by omega⟩
  rw [h3]at this
  exact this
 ·cases hm
def nodeH (a b:ByteArray):ByteArray:=shaS ((⟨#[1]⟩:ByteArray)++a++b)
def leafH (a:ByteArray):ByteArray:=shaS ((⟨#[0]⟩:ByteArray)++a)
theorem nodeH_size (a b:ByteArray):(nodeH a b).size=32:=shaS_size _
theorem leafH_size (a:ByteArray):(leafH a).size=32:=shaS_size _
noncomputable def mNode:=mdl (fun x:ByteArray×ByteArray=>x.1.size+x.2.size≤16000000) (fun x=>[aS x.1,aS x.2]) (fun x=>rS (nodeH x.1 x.2))
theorem mNode_eq (a b:ByteArray)(h:a.size+b.size≤16000000):mNode [aS a,aS b]=some (rS (nodeH a b)):=mdl_eq (by rintro⟨a,b⟩ ⟨d,e⟩ h;simpa using h) (a,b) h
noncomputable def mLeaf:=mdl (fun x:ByteArray=>x.size≤16000000) (fun x=>[aS x]) (fun x=>rS (leafH x))
theorem mLeaf_eq (a:ByteArray)(h:a.size≤16000000):mLeaf [aS a]=some (rS (leafH a)):=mdl_eq (by intro a b h;simpa using h) a h
theorem nodeS_s:Sound Tryz.prog 239 mNode:=by
 refine Sound.mdl Tryz.func239 rfl Tryz.ntmps239 ?_
 rintro⟨a,b⟩ w h
 refine⟨by simp,?_⟩
 replace h:a.size+b.size≤16000000:=h
 have hΓ:=env_cons (hsO Tryz.func40) shaSpec_s env_nil
 have z0:(⟨#[1]⟩:ByteArray).size=1:=rfl
 have z1:=bsA (a:=(⟨#[1]⟩:ByteArray)) (b:=a)
 have z2:=bsA (a:=(⟨#[1]⟩:ByteArray)++a) (b:=b)
 have c1:=mSha_eq ((⟨#[1]⟩:ByteArray)++a++b) (by omega)
 clear z2
 refine zJ ?_
 refine At.retA (by rw [Tryz.results239]) (he:=rfl)
theorem leafS_s:Sound Tryz.prog 237 mLeaf:=by
 refine Sound.mdl Tryz.func237 rfl Tryz.ntmps237 ?_
 rintro a w h
 refine⟨by simp,?_⟩
 replace h:a.size≤16000000:=h
 have hΓ:=env_cons (hsO Tryz.func40) shaSpec_s env_nil
 have z0:(⟨#[0]⟩:ByteArray).size=1:=rfl
 have z1:=bsA (a:=(⟨#[0]⟩:ByteArray)) (b:=a)
 have c1:=mSha_eq ((⟨#[0]⟩:ByteArray)++a) (by omega)
 clear z1
 refine zJ ?_
 refine At.retA (by rw [Tryz.results237]) (he:=rfl)
theorem nodeI_s:Sound Tryz.prog 186 mNode:=by
 refine Sound.mdl Tryz.func186 rfl Tryz.ntmps186 ?_
 rintro⟨a,b⟩ w h
 refine⟨by simp,?_⟩
 replace h:a.size+b.size≤16000000:=h
 have hΓ:=env_cons (hsO Tryz.func180) shaImpl_s env_nil
 have z0:(⟨#[1]⟩:ByteArray).size=1:=rfl
 have z1:=bsA (a:=(⟨#[1]⟩:ByteArray)) (b:=a)
 have z2:=bsA (a:=(⟨#[1]⟩:ByteArray)++a) (b:=b)
 have c1:=mSha_eq ((⟨#[1]⟩:ByteArray)++a++b) (by omega)
 clear z2
 refine zJ ?_
 refine At.retA (by rw [Tryz.results186]) (he:=rfl)
theorem leafI_s:Sound Tryz.prog 184 mLeaf:=by
 refine Sound.mdl Tryz.func184 rfl Tryz.ntmps184 ?_
 rintro a w h
 refine⟨by simp,?_⟩
 replace h:a.size≤16000000:=h
 have hΓ:=env_cons (hsO Tryz.func180) shaImpl_s env_nil
 have z0:(⟨#[0]⟩:ByteArray).size=1:=rfl
 have z1:=bsA (a:=(⟨#[0]⟩:ByteArray)) (b:=a)
 have c1:=mSha_eq ((⟨#[0]⟩:ByteArray)++a) (by omega)
 clear z1
 refine zJ ?_
 refine At.retA (by rw [Tryz.results184]) (he:=rfl)
def spl (n:Nat):Nat:=if n≤2 then 1 else if n≤4 then 2 else if n≤8 then 4 else if n≤16 then 8 else if n≤32 then 16 else 32
theorem spl_cases {n:Nat}(h:n≤64):(spl n=1∧n≤2)∨(spl n=2∧2<n∧n≤4)∨(spl n=4∧4<n∧n≤8)∨(spl n=8∧8<n∧n≤16)∨(spl n=16∧16<n∧n≤32)∨(spl n=32∧32<n∧n≤64):=by
 unfold spl
 by_cases h1:n≤2
 ·simp [h1]
 ·by_cases h2:n≤4
  ·simp [h1,h2];omega
  ·by_cases h3:n≤8
   ·simp [h1,h2,h3];omega
   ·by_cases h4:n≤16
    ·simp [h1,h2,h3,h4];omega
    ·by_cases h5:n≤32
     ·simp [h1,h2,h3,h4,h5];omega
     ·simp [h1,h2,h3,h4,h5];omega
theorem spl_lt {n:Nat}(h2:2≤n)(h:n≤64):1≤spl n∧spl n<n:=by have:=spl_cases h;omega
noncomputable def mSpl:=mdl (fun n:Nat=>n≤64) (fun n=>[aI (n:Int)]) (fun n=>rI (spl n))
theorem mSpl_eq (n:Nat)(h:n≤64):mSpl [aI (n:Int)]=some (rI (spl n)):=mdl_eq (by intro a b h;simp at h;omega) n h
theorem splS_s:Sound Tryz.prog 238 mSpl:=by
 refine Sound.mdl Tryz.func238 rfl Tryz.ntmps238 ?_
 rintro n w h
 refine⟨by simp,?_⟩
 replace h:n≤64:=h
 have hΓ:=eN
 refine zJ ?_
 refine W.loopA (fun k=>k≤spl n∧(k=1∨k=2∨k=4∨k=8∨k=16∨k=32)) (fun k:Nat=>[.slot 0 (vI (n:Int)),.slot 3 (vI (k:Int))]) (fun k=>64-k) 1 ⟨by have:=spl_cases h;omega,.inl rfl⟩ (h:=?_)
 rintro k ⟨hk,hp⟩
 have hc:=spl_cases h
 have e:(2:Int)*(k:Int)=((2*k:Nat):Int):=by omega
 by_cases hlt:2*k<n
 ·have h1:2*k≤spl n:=by omega
  clear hc hk
  have hk32:k≤32:=by omega
  refine zR ?_
  exact At.roundA (2*k) ⟨h1,by omega⟩ (by omega)
 ·have h1:k=spl n:=by omega
  clear hc hk
  have hk32:k≤32:=by omega
  clear hp
  refine zR ?_
  refine At.retA (by rw [Tryz.results238]) (he:=rfl)
theorem splI_s:Sound Tryz.prog 185 mSpl:=by
 refine Sound.mdl Tryz.func185 rfl Tryz.ntmps185 ?_
 rintro n w h
 refine⟨by simp,?_⟩
 replace h:n≤64:=h
 have hΓ:=eN
 refine zJ ?_
 refine W.loopA (fun k=>k≤spl n∧(k=1∨k=2∨k=4∨k=8∨k=16∨k=32)) (fun k:Nat=>[.slot 0 (vI (n:Int)),.slot 3 (vI (k:Int))]) (fun k=>64-k) 1 ⟨by have:=spl_cases h;omega,.inl rfl⟩ (h:=?_)
 rintro k ⟨hk,hp⟩
 have hc:=spl_cases h
 have e:(2:Int)*(k:Int)=((2*k:Nat):Int):=by omega
 by_cases hlt:2*k<n
 ·have h1:2*k≤spl n:=by omega
  clear hc hk
  have hk32:k≤32:=by omega
  refine zR ?_
  exact At.roundA (2*k) ⟨h1,by omega⟩ (by omega)
 ·have h1:k=spl n:=by omega
  clear hc hk
  have hk32:k≤32:=by omega
  clear hp
  refine zR ?_
  refine At.retA (by rw [Tryz.results185]) (he:=rfl)
def root (l:List ByteArray):ByteArray:=
 if h:l.length≤1∨64<l.length then leafH (l.getD 0 ByteArray.empty)else nodeH (root (l.take (spl l.length))) (root (l.drop (spl l.length)))
termination_by l.length
decreasing_by
 ·have:=spl_lt (n:=l.length) (by omega) (by omega)
  rw [List.length_take]
  omega
 ·have:=spl_lt (n:=l.length) (by omega) (by omega)
  rw [List.length_drop]
  omega
theorem root_one {l:List ByteArray}(h:l.length≤1):root l=leafH (l.getD 0 ByteArray.empty):=by rw [root,dif_pos (.inl h)]
theorem root_two {l:List ByteArray}(h:2≤l.length)(h2:l.length≤64):root l=nodeH (root (l.take (spl l.length))) (root (l.drop (spl l.length))):=by rw [root,dif_neg (by omega)]
theorem root_size (l:List ByteArray):(root l).size=32:=by
 rw [root]
 split
 ·exact leafH_size _
 ·exact nodeH_size _ _
abbrev okL (l:List ByteArray):Prop:=(1≤l.length∧l.length≤40)∧∀x∈l,x.size≤1048576
theorem okL.take {l:List ByteArray}(h:okL l){k:Nat}(h1:1≤k)(h2:k≤l.length):okL (l.take k):=by
 obtain⟨⟨a,b⟩,c⟩:=h
 exact⟨by rw [List.length_take];omega,fun x hx=>c x (List.mem_of_mem_take hx)⟩
theorem okL.drop {l:List ByteArray}(h:okL l){k:Nat}(h2:k<l.length):okL (l.drop k):=by
 obtain⟨⟨a,b⟩,c⟩:=h
 exact⟨by rw [List.length_drop];omega,fun x hx=>c x (List.mem_of_mem_drop hx)⟩
theorem row_s {l:List ByteArray}{k:Nat}(h:k<l.length):(rowsF cStr l)[k]?=some [.sc (.string (l.getD k ByteArray.empty))]:=by
 rw [row_at cStr l h,List.getD_eq_getElem?_getD,gsE h]
 rfl
theorem row_ex {l:List ByteArray}{k:Nat}(h:k<l.length):rowsF cStr l=[]∨∃row,(rowsF cStr l)[k]?=some row∧row.length=1:=.inr ⟨_,row_s h,rfl⟩
theorem sub_lo (l:List ByteArray)(k:Nat):((rowsF cStr l).take l.length).drop k=rowsF cStr (l.drop k):=by rw [rowsF_take,rowsF_drop,List.take_length]
theorem sz_at {l:List ByteArray}(h:∀x∈l,x.size≤1048576)(k:Nat):(l.getD k ByteArray.empty).size≤1048576:=by
 by_cases hk:k<l.length
 ·rw [List.getD_eq_getElem?_getD,gsE hk]
  exact h _ (List.getElem_mem hk)
 ·rw [List.getD_eq_getElem?_getD,List.getElem?_eq_none (by omega)]
  simp
theorem aL_inj1:∀x y:List ByteArray,[aL cStr x]=[aL cStr y]→x=y:=by intro a b h;simpa using h
noncomputable def mRoot1:=mdl okL (fun l=>[aL cStr l]) (fun l=>rS (root l))
theorem mRoot1_eq (l:List ByteArray)(h:okL l):mRoot1 [aL cStr l]=some (rS (root l)):=mdl_eq aL_inj1 l h
theorem root1S_s:Sound Tryz.prog 205 mRoot1:=by
 refine Sound.again List.length aL_inj1 fun N ih=>?_
 refine Sound.mdl Tryz.func205 rfl Tryz.ntmps205 ?_
 rintro l w ⟨h,hN⟩
 refine⟨by simp,?_⟩
 have hΓ:GSound Tryz.prog (look [(237,mLeaf),(239,mNode),(238,mSpl),(205,mdl (fun x=>okL x∧x.length<N) (fun l=>[aL cStr l]) (fun l=>rS (root l)))]):=env_cons (hsO Tryz.func237) leafS_s (env_cons (hsO Tryz.func239) nodeS_s (env_cons (hsO Tryz.func238) splS_s (env_cons (hsO Tryz.func205) ih env_nil)))
 have hlen:=rowsF_len cStr l
 obtain⟨⟨h1,h40⟩,hsz⟩:=id h
 by_cases hone:l.length=1
 ·have hrow:=row_s (l:=l) (k:=0) (by omega)
  have c1:=mLeaf_eq (l.getD 0 ByteArray.empty) (by have:=sz_at hsz 0;omega)
  have hr:=root_one (l:=l) (by omega)
  refine zJ ?_
  refine At.retA (by rw [Tryz.results205]) (he:=?_)
  rw [hr]
 ·have hs:=spl_lt (n:=l.length) (by omega) (by omega)
  have c2:=mSpl_eq l.length (by omega)
  have c3:mdl (fun x=>okL x∧x.length<N) (fun l=>[aL cStr l]) (fun l=>rS (root l)) [aL cStr (l.take (spl l.length))]=some (rS (root (l.take (spl l.length)))):=mdl_eq aL_inj1 _ ⟨h.take hs.1 (by omega),by rw [List.length_take];omega⟩
  have c4:mdl (fun x=>okL x∧x.length<N) (fun l=>[aL cStr l]) (fun l=>rS (root l)) [aL cStr (l.drop (spl l.length))]=some (rS (root (l.drop (spl l.length)))):=mdl_eq aL_inj1 _ ⟨h.drop (by omega),by rw [List.length_drop];omega⟩
  have c5:=mNode_eq (root (l.take (spl l.length))) (root (l.drop (spl l.length))) (by rw [root_size,root_size];omega)
  have hr:=root_two (l:=l) (by omega) (by omega)
  have e1:=rowsF_take cStr l (spl l.length)
  have e2:=sub_lo l (spl l.length)
  have x0:=row_ex (l:=l) (k:=0) (by omega)
  have x1:=row_ex (l:=l) (k:=spl l.length) (by omega)
  clear hsz h
  refine zJ ?_
  refine W.drawB hΓ 10 [[],[],[0,1],[0,1,2],[],[],[4,5],[0,1,2,3,4,5,6],[0,1,2,3,4,5,6,7],[0,1,2,3,4,5,6,7,8]] (Es:=?Es35) (rest:=?rest35) (st1:=?st135) ?_
  refine zQ ?_
  refine At.retA (by rw [Tryz.results205]) (he:=?_)
  rw [hr]
def emptyH:ByteArray:=shaS ByteArray.empty
def tree (l:List ByteArray):ByteArray:=if 40<l.length then ByteArray.empty else if l.length=0 then emptyH else root l
theorem tree_size (l:List ByteArray):(tree l).size≤32:=by
 unfold tree
 split
 ·simp
 ·split
  ·unfold emptyH;rw [shaS_size];omega
  ·rw [root_size];omega
theorem tree_root {l:List ByteArray}(h1:1≤l.length)(h2:l.length≤40):tree l=root l:=by unfold tree;rw [if_neg (by omega),if_neg (by omega)]
abbrev okT (l:List ByteArray):Prop:=l.length≤8796093022207∧∀x∈l,x.size≤1048576
noncomputable def mTree:=mdl okT (fun l=>[aL cStr l]) (fun l=>rS (tree l))
theorem mTree_eq (l:List ByteArray)(h:okT l):mTree [aL cStr l]=some (rS (tree l)):=mdl_eq aL_inj1 l h
theorem okT.take {l:List ByteArray}(h:okT l)(k:Nat):okT (l.take k):=by
 obtain⟨a,c⟩:=h
 exact⟨by rw [List.length_take];omega,fun x hx=>c x (List.mem_of_mem_take hx)⟩
theorem okT.drop {l:List ByteArray}(h:okT l)(k:Nat):okT (l.drop k):=by
 obtain⟨a,c⟩:=h
 exact⟨by rw [List.length_drop];omega,fun x hx=>c x (List.mem_of_mem_drop hx)⟩
theorem treeS_s:Sound Tryz.prog 156 mTree:=by
 refine Sound.mdl Tryz.func156 rfl Tryz.ntmps156 ?_
 rintro l w ⟨hl,hsz⟩
 refine⟨by simp,?_⟩
 have hΓ:=env_cons (hsO Tryz.func40) shaSpec_s (env_cons (hsO Tryz.func205) root1S_s env_nil)
 have hlen:=rowsF_len cStr l
 by_cases h40:40<l.length
 ·have hv:tree l=ByteArray.empty:=if_pos h40
  clear hsz
  refine zJ ?_
  refine At.retA (by rw [Tryz.results156]) (he:=?_)
  rw [hv]
  rfl
 ·by_cases h0:l.length=0
  ·have hv:tree l=emptyH:=by unfold tree;rw [if_neg h40,if_pos h0]
   have c1:mSha [aS ⟨#[]⟩]=some (rS emptyH):=mSha_eq ByteArray.empty (by simp)
   clear hsz
   refine zJ ?_
   refine At.retA (by rw [Tryz.results156]) (he:=?_)
   rw [hv]
  ·have hv:=tree_root (l:=l) (by omega) (by omega)
   have c1:=mRoot1_eq l ⟨⟨by omega,by omega⟩,hsz⟩
   clear hsz
   refine zJ ?_
   refine At.retA (by rw [Tryz.results156]) (he:=?_)
   rw [hv]
theorem treeI_s:Sound Tryz.prog 142 mTree:=by
 refine Sound.again List.length aL_inj1 fun N ih=>?_
 refine Sound.mdl Tryz.func142 rfl Tryz.ntmps142 ?_
 rintro l w ⟨h,hN⟩
 refine⟨by simp,?_⟩
 have hΓ:GSound Tryz.prog (look [(184,mLeaf),(186,mNode),(185,mSpl),(180,mSha),(142,mdl (fun x=>okT x∧x.length<N) (fun l=>[aL cStr l]) (fun l=>rS (tree l)))]):=env_cons (hsO Tryz.func184) leafI_s (env_cons (hsO Tryz.func186) nodeI_s (env_cons (hsO Tryz.func185) splI_s (env_cons (hsO Tryz.func180) shaImpl_s (env_cons (hsO Tryz.func142) ih env_nil))))
 have hlen:=rowsF_len cStr l
 obtain⟨hl,hsz⟩:=id h
 by_cases h40:40<l.length
 ·have hv:tree l=ByteArray.empty:=if_pos h40
  clear hsz h
  refine zJ ?_
  refine At.retA (by rw [Tryz.results142]) (he:=?_)
  rw [hv]
  rfl
 ·by_cases h0:l.length=0
  ·have hv:tree l=emptyH:=by unfold tree;rw [if_neg h40,if_pos h0]
   have c1:mSha [aS ⟨#[]⟩]=some (rS emptyH):=mSha_eq ByteArray.empty (by simp)
   clear hsz h
   refine zJ ?_
   refine At.retA (by rw [Tryz.results142]) (he:=?_)
   rw [hv]
  ·have hv:=tree_root (l:=l) (by omega) (by omega)
   by_cases hone:l.length=1
   ·have hrow:=row_s (l:=l) (k:=0) (by omega)
    have c1:=mLeaf_eq (l.getD 0 ByteArray.empty) (by have:=sz_at hsz 0;omega)
    have hr:=root_one (l:=l) (by omega)
    clear hsz h
    refine zJ ?_
    refine At.retA (by rw [Tryz.results142]) (he:=?_)
    rw [hv,hr]
   ·have hs:=spl_lt (n:=l.length) (by omega) (by omega)
    have c2:=mSpl_eq l.length (by omega)
    have c3:mdl (fun x=>okT x∧x.length<N) (fun l=>[aL cStr l]) (fun l=>rS (tree l)) [aL cStr (l.take (spl l.length))]=some (rS (tree (l.take (spl l.length)))):=mdl_eq aL_inj1 _ ⟨h.take _,by rw [List.length_take];omega⟩
    have c4:mdl (fun x=>okT x∧x.length<N) (fun l=>[aL cStr l]) (fun l=>rS (tree l)) [aL cStr (l.drop (spl l.length))]=some (rS (tree (l.drop (spl l.length)))):=mdl_eq aL_inj1 _ ⟨h.drop _,by rw [List.length_drop];omega⟩
    have t1:=tree_root (l:=l.take (spl l.length)) (by rw [List.length_take];omega) (by rw [List.length_take];omega)
    have t2:=tree_root (l:=l.drop (spl l.length)) (by rw [List.length_drop];omega) (by rw [List.length_drop];omega)
    rw [t1]at c3
    rw [t2]at c4
    have c5:=mNode_eq (root (l.take (spl l.length))) (root (l.drop (spl l.length))) (by rw [root_size,root_size];omega)
    have hr:=root_two (l:=l) (by omega) (by omega)
    have e1:=rowsF_take cStr l (spl l.length)
    have e2:=sub_lo l (spl l.length)
    have x0:=row_ex (l:=l) (k:=0) (by omega)
    have x1:=row_ex (l:=l) (k:=spl l.length) (by omega)
    clear hsz h t1 t2
    refine zJ ?_
    refine W.drawB hΓ 10 [[],[],[0,1],[0,1,2],[],[],[4,5],[0,1,2,3,4,5,6],[0,1,2,3,4,5,6,7],[0,1,2,3,4,5,6,7,8]] (Es:=?Es60) (rest:=?rest60) (st1:=?st160) ?_
    refine zQ ?_
    refine At.retA (by rw [Tryz.results142]) (he:=?_)
    rw [hv,hr]
end
section
def parts (m:Nat)(l:List ByteArray):List ByteArray:=
 if m=l.length then [root l]
 else if h:l.length<2∨64<l.length then []
 else if m≤spl l.length then parts m (l.take (spl l.length))++[root (l.drop (spl l.length))]
 else [root (l.take (spl l.length))]++parts (m-spl l.length) (l.drop (spl l.length))
termination_by l.length
decreasing_by
 ·have:=spl_lt (n:=l.length) (by omega) (by omega)
  rw [List.length_take]
  omega
 ·have:=spl_lt (n:=l.length) (by omega) (by omega)
  rw [List.length_drop]
  omega
theorem cStr_app1 (l:List ByteArray)(x:ByteArray):rowsF cStr l++[[.sc (.string x)]]=rowsF cStr (l++[x]):=by rw [←rowsF_app];rfl
abbrev encP (x:List ByteArray×Int):List Arg:=[aL cStr x.1,aI x.2]
theorem encP_inj:∀x y,encP x=encP y→x=y:=by
 rintro⟨a,b⟩ ⟨d,e⟩ h
 simpa [encP]using h
def pathOk (l:List ByteArray)(m:Int):Prop:=l.length≤40∧1≤m∧m≤l.length
instance (l:List ByteArray)(m:Int):Decidable (pathOk l m):=by unfold pathOk;infer_instance
end
section
def pathL (i:Nat)(l:List ByteArray):List ByteArray:=
 if h:l.length≤1∨64<l.length then []
 else if i<spl l.length then pathL i (l.take (spl l.length))++[root (l.drop (spl l.length))]
 else pathL (i-spl l.length) (l.drop (spl l.length))++[root (l.take (spl l.length))]
termination_by l.length
decreasing_by
 ·have:=spl_lt (n:=l.length) (by omega) (by omega)
  rw [List.length_take]
  omega
 ·have:=spl_lt (n:=l.length) (by omega) (by omega)
  rw [List.length_drop]
  omega
theorem pathL_one {i:Nat}{l:List ByteArray}(h:l.length≤1):pathL i l=[]:=by rw [pathL,dif_pos (.inl h)]
theorem pathL_lo {i:Nat}{l:List ByteArray}(h2:2≤l.length)(h64:l.length≤64)(hk:i<spl l.length):pathL i l=pathL i (l.take (spl l.length))++[root (l.drop (spl l.length))]:=by
 rw [pathL,dif_neg (by omega),if_pos hk]
theorem pathL_hi {i:Nat}{l:List ByteArray}(h2:2≤l.length)(h64:l.length≤64)(hk:¬i<spl l.length):pathL i l=pathL (i-spl l.length) (l.drop (spl l.length))++[root (l.take (spl l.length))]:=by
 rw [pathL,dif_neg (by omega),if_neg hk]
theorem pathL_len (n:Nat):∀(i:Nat) (l:List ByteArray),l.length=n→(pathL i l).length≤n+1:=by
 induction n using Nat.strongRecOn with
 |_ n ih=>
  intro i l hl
  by_cases hn:l.length≤1∨64<l.length
  ·rw [pathL,dif_pos hn];simp
  ·have hs:=spl_lt (n:=l.length) (by omega) (by omega)
   by_cases hk:i<spl l.length
   ·rw [pathL_lo (by omega) (by omega) hk]
    have:=ih (spl l.length) (by omega) i (l.take (spl l.length)) (by rw [List.length_take];omega)
    rw [List.length_append]
    simp only [List.length_cons,List.length_nil]
    omega
   ·rw [pathL_hi (by omega) (by omega) hk]
    have:=ih (l.length-spl l.length) (by omega) (i-spl l.length) (l.drop (spl l.length)) (by rw [List.length_drop])
    rw [List.length_append]
    simp only [List.length_cons,List.length_nil]
    omega
abbrev okR (x:List ByteArray×Int):Prop:=okL x.1∧0≤x.2∧x.2<x.1.length
abbrev rPa (x:List ByteArray×Int):Res:=rL 9 1 cStr (pathL x.2.toNat x.1)
noncomputable def mPa:=mdl okR encP rPa
noncomputable def mPaN (N:Nat):=mdl (fun x=>okR x∧x.1.length<N) encP rPa
theorem mPa_eq (l:List ByteArray)(i:Nat)(h:okL l)(h2:i<l.length):mPa [aL cStr l,aI (i:Int)]=some (rL 9 1 cStr (pathL i l)):=mdl_eq encP_inj (l,(i:Int)) ⟨h,by dsimp only;omega,by dsimp only;omega⟩
theorem mPaN_eq (N:Nat)(l:List ByteArray)(i:Nat)(h:okL l)(h2:i<l.length)(hN:l.length<N):mPaN N [aL cStr l,aI (i:Int)]=some (rL 9 1 cStr (pathL i l)):=mdl_eq encP_inj (l,(i:Int)) ⟨⟨h,by dsimp only;omega,by dsimp only;omega⟩,hN⟩
theorem pathS_s:Sound Tryz.prog 206 mPa:=by
 refine Sound.again (fun x=>x.1.length) encP_inj fun N ih=>?_
 refine Sound.mdl Tryz.func206 rfl Tryz.ntmps206 ?_
 rintro⟨l,m⟩ w ⟨⟨h,m1,m2⟩,hN⟩
 refine⟨by simp,?_⟩
 dsimp only at h m1 m2 hN
 have hΓ:GSound Tryz.prog (look [(205,mRoot1),(238,mSpl),(206,mPaN N)]):=env_cons (hsO Tryz.func205) root1S_s (env_cons (hsO Tryz.func238) splS_s (env_cons (hsO Tryz.func206) ih env_nil))
 have hlen:=rowsF_len cStr l
 obtain⟨⟨h1,h40⟩,hsz⟩:=id h
 obtain⟨i,rfl⟩:=Int.eq_ofNat_of_zero_le (show 0≤m by omega)
 have hn0:([]:List (List Leaf))=rowsF cStr []:=rfl
 by_cases hone:l.length=1
 ·have hv:=pathL_one (i:=i) (l:=l) (by omega)
  clear hsz h
  refine zJ ?_
  refine At.retA (by rw [Tryz.results206]) (he:=?_)
  simp only [rPa,Int.toNat_natCast,hv]
 ·have hs:=spl_lt (n:=l.length) (by omega) (by omega)
  have c2:=mSpl_eq l.length (by omega)
  have e1:=rowsF_take cStr l (spl l.length)
  have e2:=sub_lo l (spl l.length)
  have x0:=row_ex (l:=l) (k:=0) (by omega)
  have x1:=row_ex (l:=l) (k:=spl l.length) (by omega)
  clear hn0
  by_cases hk:i<spl l.length
  ·have hv:=pathL_lo (by omega) (by omega) hk
   have c3:=mPaN_eq N (l.take (spl l.length)) i (h.take hs.1 (by omega)) (by rw [List.length_take];omega) (by rw [List.length_take];omega)
   have c4:=mRoot1_eq (l.drop (spl l.length)) (h.drop (by omega))
   have hl2:=pathL_len _ i (l.take (spl l.length)) rfl
   rw [List.length_take]at hl2
   have ha:=cStr_app1 (pathL i (l.take (spl l.length))) (root (l.drop (spl l.length)))
   clear hsz h
   generalize pathL i (l.take (spl l.length))=L at*
   refine zJ ?_
   refine W.drawB hΓ 10 [[],[],[0,1],[],[0,1,2,3],[],[],[5,6],[0,1,2,3,4,5,6,7],[0,1,2,3,4,5,6,7,8],[0,1,2,3,4,5,6,7,8,9],[0,1,2,3,4,5,6,7,8,9,10]] (Es:=?Es7) (rest:=?rest7) (st1:=?st17) ?_
   refine zQ ?_
   refine At.retA (by rw [Tryz.results206]) (he:=?_)
   simp only [rPa,Int.toNat_natCast,hv]
  ·have hv:=pathL_hi (by omega) (by omega) hk
   have e3:(i:Int)-(spl l.length:Int)=((i-spl l.length:Nat):Int):=by omega
   have c3:=mPaN_eq N (l.drop (spl l.length)) (i-spl l.length) (h.drop (by omega)) (by rw [List.length_drop];omega) (by rw [List.length_drop];omega)
   have c4:=mRoot1_eq (l.take (spl l.length)) (h.take hs.1 (by omega))
   have hl2:=pathL_len _ (i-spl l.length) (l.drop (spl l.length)) rfl
   rw [List.length_drop]at hl2
   have ha:=cStr_app1 (pathL (i-spl l.length) (l.drop (spl l.length))) (root (l.take (spl l.length)))
   clear hsz h
   generalize pathL (i-spl l.length) (l.drop (spl l.length))=L at*
   refine zJ ?_
   refine W.drawB hΓ 12 [[],[],[0,1],[],[],[3,4],[0,1,2,3,4,5],[],[],[7,8],[0,1,2,3,4,5,6,7,8,9],[0,1,2,3,4,5,6,7,8,9,10],[0,1,2,3,4,5,6,7,8,9,10,11],[0,1,2,3,4,5,6,7,8,9,10,11,12]] (Es:=?Es12) (rest:=?rest12) (st1:=?st112) ?_
   refine zQ ?_
   refine At.retA (by rw [Tryz.results206]) (he:=?_)
   simp only [rPa,Int.toNat_natCast,hv]
theorem tpathS_s:Sound Tryz.prog 158 mPa:=by
 refine Sound.mdl Tryz.func158 rfl Tryz.ntmps158 ?_
 rintro⟨l,m⟩ w ⟨h,m1,m2⟩
 refine⟨by simp,?_⟩
 dsimp only at h m1 m2
 have hΓ:=env_cons (hsO Tryz.func206) pathS_s env_nil
 have hlen:=rowsF_len cStr l
 obtain⟨i,rfl⟩:=Int.eq_ofNat_of_zero_le (show 0≤m by omega)
 have c2:=mPa_eq l i h (by omega)
 obtain⟨⟨h1,h40⟩,hsz⟩:=h
 clear hsz
 refine zJ ?_
 refine At.retA (by rw [Tryz.results158]) (he:=rfl)
theorem tpathI_s:Sound Tryz.prog 146 mPa:=by
 refine Sound.again (fun x=>x.1.length) encP_inj fun N ih=>?_
 refine Sound.mdl Tryz.func146 rfl Tryz.ntmps146 ?_
 rintro⟨l,m⟩ w ⟨⟨h,m1,m2⟩,hN⟩
 refine⟨by simp,?_⟩
 dsimp only at h m1 m2 hN
 have hΓ:GSound Tryz.prog (look [(139,mWithin),(142,mTree),(185,mSpl),(146,mPaN N)]):=env_cons (hsO Tryz.func139) within_s (env_cons (hsO Tryz.func142) treeI_s (env_cons (hsO Tryz.func185) splI_s (env_cons (hsO Tryz.func146) ih env_nil)))
 have hlen:=rowsF_len cStr l
 obtain⟨⟨h1,h40⟩,hsz⟩:=id h
 obtain⟨i,rfl⟩:=Int.eq_ofNat_of_zero_le (show 0≤m by omega)
 have c1:=mWithin_eq (i:Int) 0 ((l.length:Int)-1)
 rw [show decide (0≤(i:Int)∧(i:Int)≤(l.length:Int)-1)=true from decide_eq_true (by omega)]at c1
 have hn0:([]:List (List Leaf))=rowsF cStr []:=rfl
 have hT:okT l:=⟨by omega,hsz⟩
 by_cases hone:l.length=1
 ·have hv:=pathL_one (i:=i) (l:=l) (by omega)
  have hone1:l.length≤1:=by omega
  clear hsz h hT hone
  refine zJ ?_
  refine At.retA (by rw [Tryz.results146]) (he:=?_)
  simp only [rPa,Int.toNat_natCast,hv]
 ·have hs:=spl_lt (n:=l.length) (by omega) (by omega)
  have c2:=mSpl_eq l.length (by omega)
  have e1:=rowsF_take cStr l (spl l.length)
  have e2:=sub_lo l (spl l.length)
  have x0:=row_ex (l:=l) (k:=0) (by omega)
  have x1:=row_ex (l:=l) (k:=spl l.length) (by omega)
  clear hn0
  by_cases hk:i<spl l.length
  ·have hv:=pathL_lo (by omega) (by omega) hk
   have c3:=mPaN_eq N (l.take (spl l.length)) i (h.take hs.1 (by omega)) (by rw [List.length_take];omega) (by rw [List.length_take];omega)
   have c4:=mTree_eq (l.drop (spl l.length)) (hT.drop _)
   rw [tree_root (by rw [List.length_drop];omega) (by rw [List.length_drop];omega)]at c4
   have hl2:=pathL_len _ i (l.take (spl l.length)) rfl
   rw [List.length_take]at hl2
   have ha:=cStr_app1 (pathL i (l.take (spl l.length))) (root (l.drop (spl l.length)))
   clear hsz h hT
   generalize pathL i (l.take (spl l.length))=L at*
   refine zJ ?_
   refine W.drawB hΓ 10 [[],[],[0,1],[],[0,1,2,3],[],[],[5,6],[0,1,2,3,4,5,6,7],[0,1,2,3,4,5,6,7,8],[0,1,2,3,4,5,6,7,8,9],[0,1,2,3,4,5,6,7,8,9,10]] (Es:=?Es25) (rest:=?rest25) (st1:=?st125) ?_
   refine zQ ?_
   refine At.retA (by rw [Tryz.results146]) (he:=?_)
   simp only [rPa,Int.toNat_natCast,hv]
  ·have hv:=pathL_hi (by omega) (by omega) hk
   have e3:(i:Int)-(spl l.length:Int)=((i-spl l.length:Nat):Int):=by omega
   have c3:=mPaN_eq N (l.drop (spl l.length)) (i-spl l.length) (h.drop (by omega)) (by rw [List.length_drop];omega) (by rw [List.length_drop];omega)
   have c4:=mTree_eq (l.take (spl l.length)) (hT.take _)
   rw [tree_root (by rw [List.length_take];omega) (by rw [List.length_take];omega)]at c4
   have hl2:=pathL_len _ (i-spl l.length) (l.drop (spl l.length)) rfl
   rw [List.length_drop]at hl2
   have ha:=cStr_app1 (pathL (i-spl l.length) (l.drop (spl l.length))) (root (l.take (spl l.length)))
   clear hsz h hT
   generalize pathL (i-spl l.length) (l.drop (spl l.length))=L at*
   refine zJ ?_
   refine W.drawB hΓ 12 [[],[],[0,1],[],[],[3,4],[0,1,2,3,4,5],[],[],[7,8],[0,1,2,3,4,5,6,7,8,9],[0,1,2,3,4,5,6,7,8,9,10],[0,1,2,3,4,5,6,7,8,9,10,11],[0,1,2,3,4,5,6,7,8,9,10,11,12]] (Es:=?Es30) (rest:=?rest30) (st1:=?st130) ?_
   refine zQ ?_
   refine At.retA (by rw [Tryz.results146]) (he:=?_)
   simp only [rPa,Int.toNat_natCast,hv]
end
end Go.Proofs.YtfgkfcfplodaoaaGreatDoor
