/-
  Put together out of 8 texts.
-/
import Derived.Test.YtfgkfcfplodaoaaGreatDoorG0
import Derived.Test.YtfgkfcfplodaoaaGreatDoorG19
import Derived.Test.YtfgkfcfplodaoaaGreatDoorRows
import Derived.Outline
import Derived.Handy
import Derived.Test.YtfgkfcfplodaoaaGreatDoorG8
import Derived.Test.YtfgkfcfplodaoaaGreatDoorG17
import Derived.Test.YtfgkfcfplodaoaaGreatDoorG21
set_option linter.unusedSimpArgs false
set_option linter.unusedVariables false
set_option maxRecDepth 100000
set_option maxHeartbeats 4000000
namespace Go.Proofs.YtfgkfcfplodaoaaGreatDoor
open Go Go.RowKit
section
open Go.RowKit
end
section
open Go.RowKit
end
section
open Go.RowKit
end
section
open Go.RowKit
end
section
def pieceS (s:ByteArray):ByteArray:=varS s.size++s
noncomputable def mPiece:=mdl (fun s:ByteArray=>s.size≤1048576) (fun s=>[aS s]) (fun s=>rS (pieceS s))
theorem mPiece_eq (s:ByteArray)(h:s.size≤1048576):mPiece [aS s]=some (rS (pieceS s)):=mdl_eq (by intro a b h;simpa using h) s h
theorem pieceS_size (s:ByteArray):(pieceS s).size≤7+s.size:=by
 unfold pieceS
 rw [ByteArray.size_append]
 have:=varS_size s.size
 omega
def showHead (h:THeader):ByteArray:=if headOk h then varS h.1++varS h.2.1++pieceS h.2.2.1++pieceS h.2.2.2.1++pieceS h.2.2.2.2.1++pieceS h.2.2.2.2.2 else ByteArray.empty
theorem showHead_no {h:THeader}(ho:¬headOk h):showHead h=ByteArray.empty:=if_neg ho
theorem showHead_yes {h:THeader}(ho:headOk h):showHead h=varS h.1++varS h.2.1++pieceS h.2.2.1++pieceS h.2.2.2.1++pieceS h.2.2.2.2.1++pieceS h.2.2.2.2.2:=if_pos ho
theorem lastN_le (h:Int):lastN h≤8:=by unfold lastN;split<;>omega
theorem showHead_size (h:THeader):(showHead h).size≤100:=by
 by_cases ho:headOk h
 ·have h1:=varS_size h.1
  have h2:=varS_size h.2.1
  have h3:=pieceS_size h.2.2.1
  have h4:=pieceS_size h.2.2.2.1
  have h5:=pieceS_size h.2.2.2.2.1
  have h6:=pieceS_size h.2.2.2.2.2
  have h7:=lastN_le h.1
  rw [showHead_yes ho]
  obtain⟨_,_,a,b,c,d⟩:=ho
  simp only [ByteArray.size_append]
  omega
 ·rw [showHead_no ho];simp
noncomputable def mShowHd:=mdl (fun _:THeader=>True) (fun h=>[aHd h]) (fun h=>rS (showHead h))
theorem mShowHd_eq (h:THeader):mShowHd [aHd h]=some (rS (showHead h)):=mdl_eq aHd_inj h trivial
theorem pieceS_s:Sound Tryz.prog 107 mPiece:=by
 refine Sound.mdl Tryz.func107 rfl Tryz.ntmps107 ?_
 rintro s w hl
 refine⟨by simp,?_⟩
 replace hl:s.size≤1048576:=hl
 have hΓ:=env_cons (hsO Tryz.func106) varSpec_s env_nil
 have c1:=mVar_eq s.size
 have s1:=varS_size s.size
 refine zJ ?_
 refine At.retA (by rw [Tryz.results107]) (he:=rfl)
def asEvShHd0:List (List Nat):=[[],[0],[0,1],[],[3],[0,1,2,3,4],[0,1,2,3,4,5],[],[7],[0,1,2,3,4,5,7,8],[0,1,2,3,4,5,6,7,8,9],[],[11],[0,1,2,3,4,5,7,8,9,11,12],[0,1,2,3,4,5,6,7,8,9,10,11,12,13],[],[15],[0,1,2,3,4,5,7,8,9,11,12,13,15,16],[0,1,2,3,4,5,6,7,8,9,10,11,12,13,14,15,16,17],[],[19],[0,1,2,3,4,5,7,8,9,11,12,13,15,16,17,19,20],[0,1,2,3,4,5,6,7,8,9,10,11,12,13,14,15,16,17,18,19,20,21],[0,1,2,3,4,5,6,7,8,9,10,11,12,13,14,15,16,17,18,19,20,21,22]]
theorem showHdS_s:Sound Tryz.prog 52 mShowHd:=by
 refine Sound.mdl Tryz.func52 rfl Tryz.ntmps52 ?_
 rintro⟨h,t,la,va,ne,da⟩ w-
 refine⟨by simp,?_⟩
 have hΓ:=env_cons (hsO Tryz.func50) headS_s (env_cons (hsO Tryz.func106) varSpec_s (env_cons (hsO Tryz.func107) pieceS_s env_nil))
 have c1:=mHead_eq (h,t,la,va,ne,da)
 dsimp only [aHd]at c1
 refine zI ?_
 by_cases ho:headOk (h,t,la,va,ne,da)
 ·rw [decide_eq_true ho]at c1
  have hv:=showHead_yes ho
  have h7:=lastN_le h
  obtain⟨_,_,a,b,c,d⟩:=ho
  dsimp only at a b c d hv
  have p1:=mPiece_eq la (by omega)
  have p2:=mPiece_eq va (by omega)
  have p3:=mPiece_eq ne (by omega)
  have p4:=mPiece_eq da (by omega)
  have s1:=varS_size h
  have s2:=varS_size t
  have s3:=pieceS_size la
  have s4:=pieceS_size va
  have s5:=pieceS_size ne
  have s6:=pieceS_size da
  have v1:=mVar_eq h
  have v2:=mVar_eq t
  generalize varS h=x1 at*
  generalize varS t=x2 at*
  generalize pieceS la=x3 at*
  generalize pieceS va=x4 at*
  generalize pieceS ne=x5 at*
  generalize pieceS da=x6 at*
  have t3:x3.size≤15:=by omega
  have t4:x4.size≤15:=by omega
  have t5:x5.size≤15:=by omega
  have t6:x6.size≤27:=by omega
  clear a b c d h7 s3 s4 s5 s6
  have e1:=bsA (a:=x1) (b:=x2)
  have e2:=bsA (a:=x1++x2) (b:=x3)
  have e3:=bsA (a:=x1++x2++x3) (b:=x4)
  have e4:=bsA (a:=x1++x2++x3++x4) (b:=x5)
  refine zR ?_
  refine W.drawB hΓ 24 asEvShHd0 (Es:=?Es8) (rest:=?rest8) (st1:=?st18) ?_
  refine zQ ?_
  refine At.retA (by rw [Tryz.results52]) (he:=?_)
  rw [hv]
 ·rw [decide_eq_false ho]at c1
  have hv:=showHead_no ho
  clear ho
  refine zR ?_
  refine At.retA (by rw [Tryz.results52]) (he:=?_)
  rw [hv]
  rfl
theorem pieceI_s:Sound Tryz.prog 233 mPiece:=by
 refine Sound.mdl Tryz.func233 rfl Tryz.ntmps233 ?_
 rintro s w hl
 refine⟨by simp,?_⟩
 replace hl:s.size≤1048576:=hl
 have hΓ:=env_cons (hsO Tryz.func232) varImpl_s env_nil
 have c1:=mVar_eq s.size
 have s1:=varS_size s.size
 refine zJ ?_
 refine At.retA (by rw [Tryz.results233]) (he:=rfl)
theorem showHdI_s:Sound Tryz.prog 188 mShowHd:=by
 refine Sound.mdl Tryz.func188 rfl Tryz.ntmps188 ?_
 rintro⟨h,t,la,va,ne,da⟩ w-
 refine⟨by simp,?_⟩
 have hΓ:=env_cons (hsO Tryz.func165) headI_s (env_cons (hsO Tryz.func232) varImpl_s (env_cons (hsO Tryz.func233) pieceI_s env_nil))
 have c1:=mHead_eq (h,t,la,va,ne,da)
 dsimp only [aHd]at c1
 refine zI ?_
 by_cases ho:headOk (h,t,la,va,ne,da)
 ·rw [decide_eq_true ho]at c1
  have hv:=showHead_yes ho
  have h7:=lastN_le h
  obtain⟨_,_,a,b,c,d⟩:=ho
  dsimp only at a b c d hv
  have p1:=mPiece_eq la (by omega)
  have p2:=mPiece_eq va (by omega)
  have p3:=mPiece_eq ne (by omega)
  have p4:=mPiece_eq da (by omega)
  have s1:=varS_size h
  have s2:=varS_size t
  have s3:=pieceS_size la
  have s4:=pieceS_size va
  have s5:=pieceS_size ne
  have s6:=pieceS_size da
  have v1:=mVar_eq h
  have v2:=mVar_eq t
  generalize varS h=x1 at*
  generalize varS t=x2 at*
  generalize pieceS la=x3 at*
  generalize pieceS va=x4 at*
  generalize pieceS ne=x5 at*
  generalize pieceS da=x6 at*
  have t3:x3.size≤15:=by omega
  have t4:x4.size≤15:=by omega
  have t5:x5.size≤15:=by omega
  have t6:x6.size≤27:=by omega
  clear a b c d h7 s3 s4 s5 s6
  have e1:=bsA (a:=x1) (b:=x2)
  have e2:=bsA (a:=x1++x2) (b:=x3)
  have e3:=bsA (a:=x1++x2++x3) (b:=x4)
  have e4:=bsA (a:=x1++x2++x3++x4) (b:=x5)
  refine zR ?_
  refine W.drawB hΓ 24 asEvShHd0 (Es:=?Es20) (rest:=?rest20) (st1:=?st120) ?_
  refine zQ ?_
  refine At.retA (by rw [Tryz.results188]) (he:=?_)
  rw [hv]
 ·rw [decide_eq_false ho]at c1
  have hv:=showHead_no ho
  clear ho
  refine zR ?_
  refine At.retA (by rw [Tryz.results188]) (he:=?_)
  rw [hv]
  rfl
end
section
abbrev AscV (l:List TVal):Prop:=l.Pairwise fun a b=>a.1<b.1
theorem valsOk_asc {l:List TVal}(h:valsOk l):AscV l:=by
 have key:∀j k,(hk:k<l.length)→(hj:j<k)→(l[j]'(by omega)).1<l[k].1:=by
  intro j k
  induction k with
  |zero=>intro _ hj;omega
  |succ k ih=>
   intro hk hj
   have h1:=(h.2 (k+1) hk).2.2.2.2 (by omega)
   rw [Nat.add_sub_cancel,List.getD_eq_getElem?_getD,List.getD_eq_getElem?_getD,gsE hk,gsE (show k<l.length by omega)]at h1
   simp only [Option.getD_some]at h1
   rcases Nat.lt_or_ge j k with h2|h2
   ·exact Int.lt_trans (ih (by omega) h2) h1
   ·have:j=k:=by omega
    subst this
    exact h1
 exact List.pairwise_iff_getElem.2 fun j k hj hk hjk=>key j k hk hjk
def putF (x:TVal):Bool→List TVal→List TVal
 |p,[]=>if p=false then [x]else []
 |p,v::r=>(if p=false∧x.1≤v.1 then [x]else [])++(if v.1=x.1 then []else [v])++putF x (p||decide (x.1≤v.1)) r
theorem putF_cons (x:TVal)(p:Bool)(v:TVal)(r:List TVal):putF x p (v::r)=(if p=false∧x.1≤v.1 then [x]else [])++(if v.1=x.1 then []else [v])++putF x (p||decide (x.1≤v.1)) r:=by rw [putF]
theorem chEnd_fold (x:TVal):∀(l:List TVal) (o:List TVal) (p h:Bool),chEnd x (l.foldl (chS x) (o,p,h))=o++putF x p l∧(l.foldl (chS x) (o,p,h)).2.2=(h||l.any fun v=>decide (v.1=x.1))
 |[],o,p,h=>by
  simp only [List.foldl_nil,chEnd,putF,List.any_nil,Bool.or_false,and_true]
  cases p<;>simp
 |v::r,o,p,h=>by
  rw [List.foldl_cons]
  obtain⟨h1,h2⟩:=chEnd_fold x r ((if p=false∧x.1≤v.1 then o++[x]else o)++(if v.1=x.1 then []else [v])) (p||decide (x.1≤v.1)) (h||decide (v.1=x.1))
  have e:chS x (o,p,h) v=((if p=false∧x.1≤v.1 then o++[x]else o)++(if v.1=x.1 then []else [v]),p||decide (x.1≤v.1),h||decide (v.1=x.1)):=rfl
  rw [e]
  refine⟨h1.trans ?_,h2.trans ?_⟩
  ·rw [putF_cons]
   split<;>simp
  ·rw [List.any_cons,Bool.or_assoc]
abbrev noId (l:List TVal)(id:Int):List TVal:=l.filter fun v=>!decide (v.1=id)
theorem chg_put (l:List TVal)(x:TVal):chg l x=putF x (decide (x.2=0)) l:=by
 have h:=(chEnd_fold x l [] (decide (x.2=0)) false).1
 unfold chg chK
 rw [List.take_length]
 simpa using h
theorem chgB_any (l:List TVal)(x:TVal):chgB l x=((l.any fun v=>decide (v.1=x.1))||!decide (x.2=0)):=by
 have h:=(chEnd_fold x l [] (decide (x.2=0)) false).2
 unfold chgB chK
 rw [List.take_length,h,Bool.false_or]
theorem putF_true (x:TVal):∀l,putF x true l=noId l x.1
 |[]=>rfl
 |v::r=>by
  rw [putF_cons]
  rw [Bool.true_or,putF_true x r]
  by_cases h:v.1=x.1<;>simp [h,noId]
theorem putF_perm (x:TVal):∀l,(putF x false l).Perm (x::noId l x.1)
 |[]=>List.Perm.refl _
 |v::r=>by
  rw [putF_cons]
  by_cases h:x.1≤v.1
  ·rw [if_pos ⟨rfl,h⟩,decide_eq_true h,Bool.or_true,putF_true]
   by_cases h2:v.1=x.1<;>simp [h2,noId]
  ·rw [if_neg (fun q=>h q.2),decide_eq_false h,Bool.or_false]
   have h2:¬v.1=x.1:=by omega
   have:=putF_perm x r
   simp only [h2,if_false,List.nil_append,List.singleton_append]
   refine(List.Perm.cons v this).trans ?_
   have e:noId (v::r) x.1=v::noId r x.1:=by simp [noId,h2]
   rw [e]
   exact List.Perm.swap x v _
theorem noId_asc {l:List TVal}(id:Int)(h:AscV l):AscV (noId l id):=h.filter _
theorem putF_asc (x:TVal):∀l,AscV l→AscV (putF x false l)
 |[],_=>by simp [putF]
 |v::r,hl=>by
  have hl':=List.pairwise_cons.1 hl
  rw [putF_cons]
  by_cases h:x.1≤v.1
  ·rw [if_pos ⟨rfl,h⟩,decide_eq_true h,Bool.or_true,putF_true]
   have e:[x]++(if v.1=x.1 then []else [v])++noId r x.1=x::noId (v::r) x.1:=by
    by_cases h2:v.1=x.1<;>simp [h2,noId]
   rw [e]
   refine List.pairwise_cons.2 ⟨fun y hy=>?_,noId_asc _ hl⟩
   obtain⟨h3,h4⟩:=List.mem_filter.1 hy
   have h5:¬y.1=x.1:=by simpa using h4
   rcases List.mem_cons.1 h3 with rfl|h3
   ·omega
   ·have:=hl'.1 y h3
    omega
  ·rw [if_neg (fun q=>h q.2),decide_eq_false h,Bool.or_false]
   have h2:¬v.1=x.1:=by omega
   simp only [h2,if_false,List.nil_append,List.singleton_append]
   refine List.pairwise_cons.2 ⟨fun y hy=>?_,putF_asc x r hl'.2⟩
   have h3:=(putF_perm x r).mem_iff.1 hy
   rcases List.mem_cons.1 h3 with rfl|h3
   ·omega
   ·exact hl'.1 y (List.mem_filter.1 h3).1
theorem chg_asc {l:List TVal}(x:TVal)(h:AscV l):AscV (chg l x):=by
 rw [chg_put]
 by_cases h0:x.2=0
 ·rw [decide_eq_true h0,putF_true]
  exact noId_asc _ h
 ·rw [decide_eq_false h0]
  exact putF_asc x l h
theorem erase_noId {id:Int}:∀{l:List TVal} {k:Nat} (hk:k<l.length),AscV l→l[k].1=id→l.eraseIdx k=noId l id
 |v::r,0,_,hl,h=>by
  have hl':=List.pairwise_cons.1 hl
  have h:v.1=id:=h
  rw [List.eraseIdx_cons_zero]
  have e:noId (v::r) id=noId r id:=by simp [noId,h]
  rw [e]
  refine(List.filter_eq_self.2 fun y hy=>?_).symm
  have:=hl'.1 y hy
  have:¬y.1=id:=by omega
  simpa using this
 |v::r,k+1,hk,hl,h=>by
  have hl':=List.pairwise_cons.1 hl
  have hk':k<r.length:=by simpa using hk
  have h:r[k].1=id:=h
  have h1:=hl'.1 r[k] (List.getElem_mem hk')
  rw [List.eraseIdx_cons_succ,erase_noId hk' hl'.2 h]
  have h2:¬v.1=id:=by omega
  simp [noId,h2]
theorem set_perm (x:TVal):∀{l:List TVal} {k:Nat},k<l.length→(l.set k x).Perm (x::l.eraseIdx k)
 |v::r,0,_=>List.Perm.refl _
 |v::r,k+1,hk=>by
  have hk':k<r.length:=by simpa using hk
  rw [List.set_cons_succ,List.eraseIdx_cons_succ]
  exact((set_perm x hk').cons v).trans (List.Perm.swap x v _)
theorem noId_self {id:Int}{l:List TVal}(h:∀v∈l,¬v.1=id):noId l id=l:=List.filter_eq_self.2 fun y hy=>by simpa using h y hy
theorem asc_uni {l m:List TVal}(hp:l.Perm m)(h1:l.Pairwise fun a b=>¬b.1<a.1)(h2:AscV m):l=m:=by
 have key:∀(m:List TVal),AscV m→∀a b,a∈m→b∈m→a.1=b.1→a=b:=by
  intro m
  induction m with
  |nil=>intro _ a b h;cases h
  |cons v r ih=>
   intro hm a b ha hb e
   obtain⟨h3,h4⟩:=List.pairwise_cons.1 hm
   rcases List.mem_cons.1 ha with e1|ha'<;>rcases List.mem_cons.1 hb with e2|hb'
   ·rw [e1,e2]
   ·have:=h3 b hb'
    rw [e1]at e
    omega
   ·have:=h3 a ha'
    rw [e2]at e
    omega
   ·exact ih h4 a b ha' hb' e
 refine List.Perm.eq_of_pairwise (le:=fun a b:TVal=>¬b.1<a.1) (fun a b ha hb h3 h4=>key m h2 a b (hp.mem_iff.1 ha) hb (by omega)) h1 (h2.imp fun {a b} h=>by omega) hp
theorem sort_erase {l l':List TVal}{x:TVal}{k:Nat}(hl:AscV l)(hk:k<l.length)(hx:l[k].1=x.1)(h0:x.2=0)(hp:l'.Perm (l.eraseIdx k))(hs:l'.Pairwise fun a b=>¬b.1<a.1):l'=chg l x:=by
 refine asc_uni (hp.trans ?_) hs (chg_asc x hl)
 rw [chg_put,decide_eq_true h0,putF_true,erase_noId hk hl hx]
theorem sort_set {l l':List TVal}{x:TVal}{k:Nat}(hl:AscV l)(hk:k<l.length)(hx:l[k].1=x.1)(h0:¬x.2=0)(hp:l'.Perm (l.set k x))(hs:l'.Pairwise fun a b=>¬b.1<a.1):l'=chg l x:=by
 refine asc_uni (hp.trans ?_) hs (chg_asc x hl)
 rw [chg_put,decide_eq_false h0]
 refine(set_perm x hk).trans ?_
 rw [erase_noId hk hl hx]
 exact(putF_perm x l).symm
theorem sort_app {l l':List TVal}{x:TVal}(hl:AscV l)(hx:∀v∈l,¬v.1=x.1)(h0:¬x.2=0)(hp:l'.Perm (l++[x]))(hs:l'.Pairwise fun a b=>¬b.1<a.1):l'=chg l x:=by
 refine asc_uni (hp.trans ?_) hs (chg_asc x hl)
 rw [chg_put,decide_eq_false h0]
 have h1:=putF_perm x l
 rw [noId_self hx]at h1
 exact(List.perm_append_comm (l₁:=l) (l₂:=[x])).trans h1.symm
theorem chgB_at {l:List TVal}{x:TVal}{k:Nat}(hk:k<l.length)(hx:l[k].1=x.1):chgB l x=true:=by
 rw [chgB_any]
 have:(l.any fun v=>decide (v.1=x.1))=true:=List.any_eq_true.2 ⟨l[k],List.getElem_mem hk,decide_eq_true hx⟩
 rw [this,Bool.true_or]
theorem chgB_no {l:List TVal}{x:TVal}(hx:∀v∈l,¬v.1=x.1):chgB l x=!decide (x.2=0):=by
 rw [chgB_any]
 have:(l.any fun v=>decide (v.1=x.1))=false:=List.any_eq_false.2 fun v hv=>by simpa using hx v hv
 rw [this,Bool.false_or]
end
end Go.Proofs.YtfgkfcfplodaoaaGreatDoor
