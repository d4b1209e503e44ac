/-
  Put together out of 4 texts.
-/
import Derived.Test.YtfgkfcfplodaoaaGreatDoorK0
import Derived.Test.YtfgkfcfplodaoaaGreatDoorK1
import Derived.Test.YtfgkfcfplodaoaaGreatDoorG17
import Derived.Test.YtfgkfcfplodaoaaGreatDoorG12
import Derived.Test.YtfgkfcfplodaoaaGreatDoorG2
set_option linter.unusedSimpArgs false
set_option linter.unusedVariables false
set_option maxRecDepth 100000
set_option maxHeartbeats 4000000
namespace Go.Proofs.YtfgkfcfplodaoaaGreatDoor
open Go Go.RowKit
section
abbrev TTrust:=Int×Int
abbrev aTr (t:TTrust):Arg:=.val true [.sc (.int .i64 t.1),.sc (.int .i64 t.2)]
theorem aTr_inj:∀x y:TTrust,[aTr x]=[aTr y]→x=y:=by
 rintro⟨a,b⟩ ⟨a',b'⟩ h
 simpa [aTr]using h
def trustOk (t:TTrust):Prop:=(1≤t.1∧t.1≤100000)∧(0≤t.2∧t.2≤1000)
instance (t:TTrust):Decidable (trustOk t):=by unfold trustOk;infer_instance
noncomputable def mTrust:=mdl (fun _:TTrust=>True) (fun t=>[aTr t]) (fun t=>rB (decide (trustOk t)))
theorem mTrust_eq (t:TTrust):mTrust [aTr t]=some (rB (decide (trustOk t))):=mdl_eq aTr_inj t trivial
theorem trustS_s:Sound Tryz.prog 71 mTrust:=by
 refine Sound.mdl Tryz.func71 rfl Tryz.ntmps71 ?_
 rintro⟨p,s⟩ w-
 refine⟨by simp,?_⟩
 have hΓ:=env_cons (hsO Tryz.func39) l1In_s env_nil
 have c1:=mIn_eq p 1 100000
 have c2:=mIn_eq s 0 1000
 refine zI ?_
 by_cases hp:1≤p∧p≤100000
 ·refine zR ?_
  refine At.retA (by rw [Tryz.results71]) (he:=?_)
  simp [trustOk,hp]
 ·refine zR ?_
  refine At.retA (by rw [Tryz.results71]) (he:=?_)
  simp [trustOk,hp]
theorem trustI_s:Sound Tryz.prog 122 mTrust:=by
 refine Sound.mdl Tryz.func122 rfl Tryz.ntmps122 ?_
 rintro⟨p,s⟩ w-
 refine⟨by simp,?_⟩
 have hΓ:=env_cons (hsO Tryz.func139) within_s env_nil
 have c1:=mWithin_eq p 1 100000
 have c2:=mWithin_eq s 0 1000
 refine zI ?_
 by_cases hp:1≤p∧p≤100000
 ·refine zR ?_
  refine At.retA (by rw [Tryz.results122]) (he:=?_)
  simp [trustOk,hp]
 ·refine zR ?_
  refine At.retA (by rw [Tryz.results122]) (he:=?_)
  simp [trustOk,hp]
def expT (t:TTrust)(n:Int):Int:=if trustOk t∧(0≤n∧n≤1000000)then n+t.1 else-1
abbrev aTrI (x:TTrust×Int):List Arg:=[aTr x.1,aI x.2]
theorem aTrI_inj:∀x y,aTrI x=aTrI y→x=y:=by
 rintro⟨⟨a,b⟩,c⟩ ⟨⟨a',b'⟩,c'⟩ h
 simp [aTrI,aTr]at h
 simp [h]
noncomputable def mExp:=mdl (fun _:TTrust×Int=>True) aTrI (fun x=>rI (expT x.1 x.2))
theorem mExp_eq (t:TTrust)(n:Int):mExp [aTr t,aI n]=some (rI (expT t n)):=mdl_eq aTrI_inj (t,n) trivial
theorem expI_s:Sound Tryz.prog 126 mExp:=by
 refine Sound.mdl Tryz.func126 rfl Tryz.ntmps126 ?_
 rintro⟨⟨p,s⟩,n⟩ w-
 refine⟨by simp,?_⟩
 have hΓ:=env_cons (hsO Tryz.func122) trustI_s (env_cons (hsO Tryz.func125) isTime_s env_nil)
 have c1:=mTrust_eq (p,s)
 have c2:=mTime_eq n
 dsimp only [aTr]at c1
 refine zI ?_
 by_cases ht:trustOk (p,s)
 ·have hp:1≤p∧p≤100000:=ht.1
  rw [decide_eq_true ht]at c1
  by_cases hn:0≤n∧n≤1000000
  ·refine zR ?_
   refine At.retA (by rw [Tryz.results126]) (he:=?_)
   simp [expT,ht,hn]
  ·refine zR ?_
   refine At.retA (by rw [Tryz.results126]) (he:=?_)
   simp only [expT,ht,hn,and_false,if_false]
 ·rw [decide_eq_false ht]at c1
  by_cases hn:0≤n∧n≤1000000
  ·refine zR ?_
   refine At.retA (by rw [Tryz.results126]) (he:=?_)
   simp only [expT,ht,false_and,if_false]
  ·refine zR ?_
   refine At.retA (by rw [Tryz.results126]) (he:=?_)
   simp only [expT,ht,false_and,if_false]
abbrev TVote:=Int×Int×Int×ByteArray×Int
abbrev aVt (v:TVote):Arg:=.val true [.sc (.int .i64 v.1),.sc (.int .i64 v.2.1),.sc (.int .i64 v.2.2.1),.sc (.string v.2.2.2.1),.sc (.int .i64 v.2.2.2.2)]
theorem aVt_inj:∀x y:TVote,[aVt x]=[aVt y]→x=y:=by
 rintro⟨a,b,c,d,e⟩ ⟨a',b',c',d',e'⟩ h
 simpa [aVt]using h
def idOk (s:ByteArray):Prop:=(s.size:Int)=8∨s=(⟨#[]⟩:ByteArray)
instance (s:ByteArray):Decidable (idOk s):=by unfold idOk;infer_instance
theorem idOk_size {s:ByteArray}(h:idOk s):s.size≤8:=by
 rcases h with h|h
 ·omega
 ·rw [h];decide
def voteOk (v:TVote):Prop:=(1≤v.1∧v.1≤1000000)∧(0≤v.2.1∧v.2.1≤1000)∧(1≤v.2.2.1∧v.2.2.1≤2)∧idOk v.2.2.2.1∧(1≤v.2.2.2.2∧v.2.2.2.2≤99)
instance (v:TVote):Decidable (voteOk v):=by unfold voteOk;infer_instance
noncomputable def mId:=mdl (fun _:ByteArray=>True) (fun s=>[aS s]) (fun s=>rB (decide (idOk s)))
theorem mId_eq (s:ByteArray):mId [aS s]=some (rB (decide (idOk s))):=mdl_eq (by intro a b h;simpa using h) s trivial
noncomputable def mVal99:=mdl (fun _:Int=>True) (fun n=>[aI n]) (fun n=>rB (decide (1≤n∧n≤99)))
theorem mVal99_eq (n:Int):mVal99 [aI n]=some (rB (decide (1≤n∧n≤99))):=mdl_eq (by intro a b h;simpa using h) n trivial
noncomputable def mVote:=mdl (fun _:TVote=>True) (fun v=>[aVt v]) (fun v=>rB (decide (voteOk v)))
theorem mVote_eq (v:TVote):mVote [aVt v]=some (rB (decide (voteOk v))):=mdl_eq aVt_inj v trivial
theorem isVal_s:Sound Tryz.prog 231 mVal99:=by
 refine Sound.mdl Tryz.func231 rfl Tryz.ntmps231 ?_
 rintro n w-
 refine⟨by simp,?_⟩
 have hΓ:=env_cons (hsO Tryz.func139) within_s env_nil
 have c1:=mWithin_eq n 1 99
 refine zJ ?_
 refine At.retA (by rw [Tryz.results231]) (he:=rfl)
theorem isId_s:Sound Tryz.prog 241 mId:=by
 refine Sound.mdl Tryz.func241 rfl Tryz.ntmps241 ?_
 rintro s w-
 refine⟨by simp,?_⟩
 have hΓ:=eN
 refine zI ?_
 by_cases h8:(s.size:Int)=8
 ·refine zR ?_
  refine At.retA (by rw [Tryz.results241]) (he:=?_)
  simp [idOk,h8]
 ·have e:decide (idOk s)=decide (s=(⟨#[]⟩:ByteArray)):=by simp [idOk,h8]
  refine zR ?_
  refine At.retA (by rw [Tryz.results241]) (he:=?_)
  rw [e]
theorem voteI_s:Sound Tryz.prog 218 mVote:=by
 refine Sound.mdl Tryz.func218 rfl Tryz.ntmps218 ?_
 rintro⟨h,r,s,id,v⟩ w-
 refine⟨by simp,?_⟩
 have hΓ:=env_cons (hsO Tryz.func139) within_s (env_cons (hsO Tryz.func213) isHeight_s (env_cons (hsO Tryz.func241) isId_s (env_cons (hsO Tryz.func231) isVal_s env_nil)))
 have c1:=mHeight_eq h
 have c2:=mWithin_eq r 0 1000
 have c3:=mWithin_eq s 1 2
 have c4:=mId_eq id
 have c5:=mVal99_eq v
 refine zI ?_
 rcases cases5 ((1:Int)≤h∧h≤1000000) ((0:Int)≤r∧r≤1000) ((1:Int)≤s∧s≤2) (idOk id) ((1:Int)≤v∧v≤99)with hh|hh|hh|hh|hh|hh
 all_goals
  refine zR ?_
  refine At.retA (by rw [Tryz.results218]) (he:=?_)
  simp [voteOk,hh]
theorem voteS_s:Sound Tryz.prog 130 mVote:=by
 refine Sound.mdl Tryz.func130 rfl Tryz.ntmps130 ?_
 rintro⟨h,r,s,id,v⟩ w-
 refine⟨by simp,?_⟩
 have hΓ:=env_cons (hsO Tryz.func39) l1In_s env_nil
 have c1:=mIn_eq h 1 1000000
 have c2:=mIn_eq r 0 1000
 have c3:=mIn_eq s 1 2
 have c5:=mIn_eq v 1 99
 refine zI ?_
 by_cases he:id=(⟨#[]⟩:ByteArray)
 ·have hi:idOk id:=.inr he
  rcases cases5 ((1:Int)≤h∧h≤1000000) ((0:Int)≤r∧r≤1000) ((1:Int)≤s∧s≤2) True ((1:Int)≤v∧v≤99)with hh|hh|hh|hh|hh|hh
  all_goals
   have e1:decide (id=(⟨#[]⟩:ByteArray))=true:=dcT he
   clear he
   first|exact absurd hh.2.2.2 (fun h=>h trivial)|skip
  all_goals
   refine zR ?_
   refine At.retA (by rw [Tryz.results130]) (he:=?_)
   simp [voteOk,hh,hi]
 ·have e1:decide (id=(⟨#[]⟩:ByteArray))=false:=dcF he
  have hi:idOk id↔(id.size:Int)=8:=⟨fun h=>h.resolve_right he,.inl⟩
  clear he
  rcases cases5 ((1:Int)≤h∧h≤1000000) ((0:Int)≤r∧r≤1000) ((1:Int)≤s∧s≤2) ((id.size:Int)=8) ((1:Int)≤v∧v≤99)with hh|hh|hh|hh|hh|hh
  all_goals
   refine zR ?_
   refine At.retA (by rw [Tryz.results130]) (he:=?_)
   simp [voteOk,hh,hi]
def digS (v:TVote):ByteArray:=if voteOk v then varS v.1++varS v.2.1++varS v.2.2.1++v.2.2.2.1 else ByteArray.empty
theorem digS_yes {v:TVote}(h:voteOk v):digS v=varS v.1++varS v.2.1++varS v.2.2.1++v.2.2.2.1:=if_pos h
theorem digS_no {v:TVote}(h:¬voteOk v):digS v=ByteArray.empty:=if_neg h
theorem digS_size (v:TVote):(digS v).size≤40:=by
 by_cases h:voteOk v
 ·rw [digS_yes h]
  have h1:=varS_size v.1
  have h2:=varS_size v.2.1
  have h3:=varS_size v.2.2.1
  have h4:=idOk_size h.2.2.2.1
  simp only [ByteArray.size_append]
  omega
 ·rw [digS_no h];simp
noncomputable def mDig:=mdl (fun _:TVote=>True) (fun v=>[aVt v]) (fun v=>rS (digS v))
theorem mDig_eq (v:TVote):mDig [aVt v]=some (rS (digS v)):=mdl_eq aVt_inj v trivial
theorem digS_s:Sound Tryz.prog 98 mDig:=by
 refine Sound.mdl Tryz.func98 rfl Tryz.ntmps98 ?_
 rintro⟨h,r,s,id,v⟩ w-
 refine⟨by simp,?_⟩
 have hΓ:=env_cons (hsO Tryz.func130) voteS_s (env_cons (hsO Tryz.func106) varSpec_s env_nil)
 have c1:=mVote_eq (h,r,s,id,v)
 dsimp only [aVt]at c1
 refine zI ?_
 by_cases ho:voteOk (h,r,s,id,v)
 ·rw [decide_eq_true ho]at c1
  have hv:=digS_yes ho
  have hs:=idOk_size ho.2.2.2.1
  dsimp only at hv hs
  have s1:=varS_size h
  have s2:=varS_size r
  have s3:=varS_size s
  have v1:=mVar_eq h
  have v2:=mVar_eq r
  have v3:=mVar_eq s
  generalize varS h=x1 at*
  generalize varS r=x2 at*
  generalize varS s=x3 at*
  clear ho
  have e1:=bsA (a:=x1) (b:=x2)
  have e2:=bsA (a:=x1++x2) (b:=x3)
  refine zR ?_
  refine W.drawB hΓ 15 [[],[0],[0,1],[],[3],[0,1,2,3,4],[0,1,2,3,4,5],[],[7],[0,1,2,3,4,5,7,8],[0,1,2,3,4,5,6,7,8,9],[],[11],[0,1,2,3,4,5,6,7,8,9,10,11,12],[0,1,2,3,4,5,6,7,8,9,10,11,12,13]] (Es:=?Es46) (rest:=?rest46) (st1:=?st146) ?_
  refine zQ ?_
  refine At.retA (by rw [Tryz.results98]) (he:=?_)
  rw [hv]
 ·rw [decide_eq_false ho]at c1
  have hv:=digS_no ho
  clear ho
  refine zR ?_
  refine At.retA (by rw [Tryz.results98]) (he:=?_)
  rw [hv]
  rfl
theorem digI_s:Sound Tryz.prog 183 mDig:=by
 refine Sound.mdl Tryz.func183 rfl Tryz.ntmps183 ?_
 rintro⟨h,r,s,id,v⟩ w-
 refine⟨by simp,?_⟩
 have hΓ:=env_cons (hsO Tryz.func218) voteI_s (env_cons (hsO Tryz.func232) varImpl_s env_nil)
 have c1:=mVote_eq (h,r,s,id,v)
 dsimp only [aVt]at c1
 refine zI ?_
 by_cases ho:voteOk (h,r,s,id,v)
 ·rw [decide_eq_true ho]at c1
  have hv:=digS_yes ho
  have hs:=idOk_size ho.2.2.2.1
  dsimp only at hv hs
  have s1:=varS_size h
  have s2:=varS_size r
  have s3:=varS_size s
  have v1:=mVar_eq h
  have v2:=mVar_eq r
  have v3:=mVar_eq s
  generalize varS h=x1 at*
  generalize varS r=x2 at*
  generalize varS s=x3 at*
  clear ho
  have e1:=bsA (a:=x1) (b:=x2)
  have e2:=bsA (a:=x1++x2) (b:=x3)
  refine zR ?_
  refine W.drawB hΓ 15 [[],[0],[0,1],[],[3],[0,1,2,3,4],[0,1,2,3,4,5],[],[7],[0,1,2,3,4,5,7,8],[0,1,2,3,4,5,6,7,8,9],[],[11],[0,1,2,3,4,5,6,7,8,9,10,11,12],[0,1,2,3,4,5,6,7,8,9,10,11,12,13]] (Es:=?Es54) (rest:=?rest54) (st1:=?st154) ?_
  refine zQ ?_
  refine At.retA (by rw [Tryz.results183]) (he:=?_)
  rw [hv]
 ·rw [decide_eq_false ho]at c1
  have hv:=digS_no ho
  clear ho
  refine zR ?_
  refine At.retA (by rw [Tryz.results183]) (he:=?_)
  rw [hv]
  rfl
def signS (n:Int)(d:ByteArray):ByteArray:=if 1≤n∧n≤99 then shortS ((⟨#[4]⟩:ByteArray)++bsS (fixB 2 n.toNat)++d)else ByteArray.empty
noncomputable def mFix2:=mdl (fun n:Nat=>n≤99) (fun n=>[aI (n:Int),aI 2]) (fun n=>rS (bsS (fixB 2 n)))
theorem mFix2_eq (n:Nat)(h:n≤99):mFix2 [aI (n:Int),aI 2]=some (rS (bsS (fixB 2 n))):=mdl_eq (enc:=fun n:Nat=>[aI (n:Int),aI 2]) (by intro a b h;simp at h;omega) n h
theorem fix2 {n:Nat}(h:n≤99):fixB 2 n=[0,n]:=by
 have h1:n/256=0:=by omega
 have h2:n%256=n:=by omega
 simp [fixB,h1,h2]
theorem fix2I_s:Sound Tryz.prog 224 mFix2:=by
 refine Sound.mdl Tryz.func224 rfl Tryz.ntmps224 ?_
 rintro n w hn
 refine⟨by simp,?_⟩
 replace hn:n≤99:=hn
 have hΓ:=env_cons (hsO Tryz.func139) within_s env_nil
 have c1:=mWithin_eq 2 1 7
 have ed:decide ((1:Int)≤2∧(2:Int)≤7)=true:=by decide
 rw [ed]at c1
 have e84:(8:Int)*2=16:=rfl
 have e32:min 16 IntKind.i64.bits=16:=rfl
 have ha:ar .i64 (1*2^16)=some (.int .i64 65536):=rfl
 have hf:=fix2 hn
 have t1:bits .and .i64 (n:Int) 255=(n:Int):=by rw [and255 (by omega),Nat.mod_eq_of_lt (by omega)]
 have t2:(n:Int).fdiv (2^8)=0:=by rw [fdiv_nat n 8];omega
 have m8:min 8 IntKind.i64.bits=8:=rfl
 have hw:=wrap_u8n (n:=n) (by omega)
 have b0:bits .and .i64 0 255=0:=rfl
 have hw0:IntKind.u8.wrap 0=0:=rfl
 have f0:(0:Int).fdiv (2^8)=0:=rfl
 have hz:List.replicate 2 [Leaf.sc (.int .u8 0)]=[[Leaf.sc (.int .u8 0)],[Leaf.sc (.int .u8 0)]]:=rfl
 have hb:=bytes_rows [0,n]
 have hb2:rowsF cU8 [0,n]=[[Leaf.sc (.int .u8 0)],[Leaf.sc (.int .u8 (n:Int))]]:=rfl
 rw [hb2]at hb
 refine zJ ?_
 refine W.loopA (fun j=>j≤2) (fun j:Nat=>[.slot 6 (vI (1-(j:Int))),.slot 0 (vI (if j=0 then(n:Int)else 0)),.slot 5 (one (.all 22)),.blk 22 (.arr .ft 5 1 [[Leaf.sc (.int .u8 0)],[Leaf.sc (.int .u8 (if j=0 then 0 else(n:Int)))]])]) (fun j=>2-j) 0 (Nat.zero_le _) (h:=?_)
 rintro j hj
 rcases j with _|_|_|j
 ·simp only [if_true]
  refine zR ?_
  exact At.roundA 1 (by omega) (by omega)
 ·simp only [Nat.succ_ne_zero,if_false]
  refine zR ?_
  exact At.roundA 2 (by omega) (by omega)
 ·simp only [Nat.succ_ne_zero,if_false]
  refine zR ?_
  refine At.retA (by rw [Tryz.results224]) (he:=?_)
  rw [hf]
  rfl
 ·omega
theorem fix2S_s:Sound Tryz.prog 138 mFix2:=by
 refine Sound.mdl Tryz.func138 rfl Tryz.ntmps138 ?_
 rintro n w hn
 refine⟨by simp,?_⟩
 replace hn:n≤99:=hn
 have hΓ:=env_cons (hsO Tryz.func39) l1In_s env_nil
 have c1:=mIn_eq 2 1 7
 have ed:decide ((1:Int)≤2∧(2:Int)≤7)=true:=by decide
 rw [ed]at c1
 have hf:=fix2 hn
 have t1:(n:Int).tmod 256=(n:Int):=by rw [Int.tmod_eq_emod_of_nonneg (by omega)];omega
 have t2:(n:Int).tdiv 256=0:=by rw [Int.tdiv_eq_ediv_of_nonneg (by omega)];omega
 have hw:=wrap_u8n (n:=n) (by omega)
 have z1:(0:Int).tmod 256=0:=rfl
 have z2:(0:Int).tdiv 256=0:=rfl
 have hw0:IntKind.u8.wrap 0=0:=rfl
 have hb:=bytes_rows [n]
 have hb2:rowsF cU8 [n]=[[Leaf.sc (.int .u8 (n:Int))]]:=rfl
 rw [hb2]at hb
 have hb0:=bytes_rows [0]
 have hb02:rowsF cU8 [0]=[[Leaf.sc (.int .u8 0)]]:=rfl
 rw [hb02]at hb0
 refine zJ ?_
 refine W.loopA (fun j=>j≤2) (fun j:Nat=>[.slot 6 (vI (j:Int)),.slot 0 (vI (if j=0 then(n:Int)else 0)),.slot 1 (vI 2),.slot 5 (vS (bsS (if j=0 then []else if j=1 then [n]else [0,n])))]) (fun j=>2-j) 0 (Nat.zero_le _) (h:=?_)
 rintro j hj
 rcases j with _|_|_|j
 ·simp only [if_true]
  refine zR ?_
  exact At.roundA 1 (by omega) (by omega)
 ·simp only [Nat.succ_ne_zero,if_false]
  refine zR ?_
  exact At.roundA 2 (by omega) (by omega)
 ·simp only [Nat.succ_ne_zero,if_false]
  refine zR ?_
  refine At.retA (by rw [Tryz.results138]) (he:=?_)
  rw [hf]
 ·omega
abbrev okSg (x:Int×ByteArray):Prop:=x.2.size≤1048576
noncomputable def mSign:=mdl okSg (fun x=>[aI x.1,aS x.2]) (fun x=>rS (signS x.1 x.2))
theorem mSign_eq (n:Int)(d:ByteArray)(h:d.size≤1048576):mSign [aI n,aS d]=some (rS (signS n d)):=mdl_eq (ok:=okSg) (enc:=fun x=>[aI x.1,aS x.2]) (g:=fun x=>rS (signS x.1 x.2)) (by rintro⟨a,b⟩ ⟨c,d⟩ h;simpa using h) (n,d) h
theorem signS_s:Sound Tryz.prog 97 mSign:=by
 refine Sound.mdl Tryz.func97 rfl Tryz.ntmps97 ?_
 rintro⟨n,d⟩ w hd
 refine⟨by simp,?_⟩
 replace hd:d.size≤1048576:=hd
 have hΓ:=env_cons (hsO Tryz.func39) l1In_s (env_cons (hsO Tryz.func138) fix2S_s (env_cons (hsO Tryz.func51) short_s env_nil))
 have c1:=mIn_eq n 1 99
 by_cases hn:1≤n∧n≤99
 ·obtain⟨k,rfl⟩:=Int.eq_ofNat_of_zero_le (show 0≤n by omega)
  have c2:=mFix2_eq k (by omega)
  have hs:(bsS (fixB 2 k)).size=2:=by rw [bsS_size,fixB_len]
  have hv:signS (k:Int) d=shortS ((⟨#[4]⟩:ByteArray)++bsS (fixB 2 k)++d):=by unfold signS;rw [if_pos hn,Int.toNat_natCast]
  have e1:=bsA (a:=(⟨#[4]⟩:ByteArray)) (b:=bsS (fixB 2 k))
  have e2:=bsA (a:=(⟨#[4]⟩:ByteArray)++bsS (fixB 2 k)) (b:=d)
  have e0:(⟨#[4]⟩:ByteArray).size=1:=rfl
  have c3:=mShort_eq ((⟨#[4]⟩:ByteArray)++bsS (fixB 2 k)++d) (by omega)
  generalize bsS (fixB 2 k)=x at*
  refine zJ ?_
  refine At.retA (by rw [Tryz.results97]) (he:=?_)
  rw [hv]
 ·have hv:signS n d=ByteArray.empty:=if_neg hn
  refine zJ ?_
  refine At.retA (by rw [Tryz.results97]) (he:=?_)
  rw [hv]
  rfl
theorem signI_s:Sound Tryz.prog 182 mSign:=by
 refine Sound.mdl Tryz.func182 rfl Tryz.ntmps182 ?_
 rintro⟨n,d⟩ w hd
 refine⟨by simp,?_⟩
 replace hd:d.size≤1048576:=hd
 have hΓ:=env_cons (hsO Tryz.func231) isVal_s (env_cons (hsO Tryz.func224) fix2I_s (env_cons (hsO Tryz.func187) shortI_s env_nil))
 have c1:=mVal99_eq n
 by_cases hn:1≤n∧n≤99
 ·obtain⟨k,rfl⟩:=Int.eq_ofNat_of_zero_le (show 0≤n by omega)
  have c2:=mFix2_eq k (by omega)
  have hs:(bsS (fixB 2 k)).size=2:=by rw [bsS_size,fixB_len]
  have hv:signS (k:Int) d=shortS ((⟨#[4]⟩:ByteArray)++bsS (fixB 2 k)++d):=by unfold signS;rw [if_pos hn,Int.toNat_natCast]
  have e1:=bsA (a:=(⟨#[4]⟩:ByteArray)) (b:=bsS (fixB 2 k))
  have e2:=bsA (a:=(⟨#[4]⟩:ByteArray)++bsS (fixB 2 k)) (b:=d)
  have e0:(⟨#[4]⟩:ByteArray).size=1:=rfl
  have c3:=mShort_eq ((⟨#[4]⟩:ByteArray)++bsS (fixB 2 k)++d) (by omega)
  generalize bsS (fixB 2 k)=x at*
  refine zJ ?_
  refine At.retA (by rw [Tryz.results182]) (he:=?_)
  rw [hv]
 ·have hv:signS n d=ByteArray.empty:=if_neg hn
  refine zJ ?_
  refine At.retA (by rw [Tryz.results182]) (he:=?_)
  rw [hv]
  rfl
def signedB (v:TVote)(s:ByteArray):Bool:=decide (voteOk v)&&decide (s=signS v.2.2.2.2 (digS v))
abbrev aVtS (x:TVote×ByteArray):List Arg:=[aVt x.1,aS x.2]
theorem aVtS_inj:∀x y,aVtS x=aVtS y→x=y:=by
 rintro⟨⟨a,b,c,d,e⟩,f⟩ ⟨⟨a',b',c',d',e'⟩,f'⟩ h
 simp [aVtS,aVt]at h
 simp [h]
noncomputable def mSigned:=mdl (fun _:TVote×ByteArray=>True) aVtS (fun x=>rB (signedB x.1 x.2))
theorem mSigned_eq (v:TVote)(s:ByteArray):mSigned [aVt v,aS s]=some (rB (signedB v s)):=mdl_eq aVtS_inj (v,s) trivial
theorem signedS_s:Sound Tryz.prog 78 mSigned:=by
 refine Sound.mdl Tryz.func78 rfl Tryz.ntmps78 ?_
 rintro⟨⟨h,r,s,id,v⟩,sg⟩ w-
 refine⟨by simp,?_⟩
 have hΓ:=env_cons (hsO Tryz.func130) voteS_s (env_cons (hsO Tryz.func98) digS_s (env_cons (hsO Tryz.func97) signS_s env_nil))
 have c1:=mVote_eq (h,r,s,id,v)
 have c2:=mDig_eq (h,r,s,id,v)
 have hz:=digS_size (h,r,s,id,v)
 have c3:=mSign_eq v (digS (h,r,s,id,v)) (by omega)
 dsimp only [aVt]at c1 c2
 refine zI ?_
 by_cases ho:voteOk (h,r,s,id,v)
 ·have hv:signedB (h,r,s,id,v) sg=decide (sg=signS v (digS (h,r,s,id,v))):=by simp [signedB,ho]
  rw [decide_eq_true ho]at c1
  clear ho
  generalize digS (h,r,s,id,v)=d at*
  refine zR ?_
  refine W.drawB hΓ 12 [[],[0],[0,1],[0,1,2],[0,1,2],[0,1,2,4],[0,1,2],[0,1,2,6],[0,1,2,4,5,6,7],[0,1,2,3,4,5,6,7,8],[0,1,2,3,4,5,6,7,8,9],[0,1,2,3,4,5,6,7,8,9,10]] (Es:=?Es90) (rest:=?rest90) (st1:=?st190) ?_
  refine zQ ?_
  refine At.retA (by rw [Tryz.results78]) (he:=?_)
  rw [hv]
 ·have hv:signedB (h,r,s,id,v) sg=false:=by simp [signedB,ho]
  rw [decide_eq_false ho]at c1
  clear ho
  refine zR ?_
  refine W.drawB hΓ 12 [[],[0],[0,1],[0,1,2],[0,1,2],[0,1,2,4],[0,1,2],[0,1,2,6],[0,1,2,4,5,6,7],[0,1,2,3,4,5,6,7,8],[0,1,2,3,4,5,6,7,8,9],[0,1,2,3,4,5,6,7,8,9,10]] (Es:=?Es94) (rest:=?rest94) (st1:=?st194) ?_
  refine zQ ?_
  refine At.retA (by rw [Tryz.results78]) (he:=?_)
  rw [hv]
theorem signedI_s:Sound Tryz.prog 173 mSigned:=by
 refine Sound.mdl Tryz.func173 rfl Tryz.ntmps173 ?_
 rintro⟨⟨h,r,s,id,v⟩,sg⟩ w-
 refine⟨by simp,?_⟩
 have hΓ:=env_cons (hsO Tryz.func218) voteI_s (env_cons (hsO Tryz.func183) digI_s (env_cons (hsO Tryz.func182) signI_s env_nil))
 have c1:=mVote_eq (h,r,s,id,v)
 have c2:=mDig_eq (h,r,s,id,v)
 have hz:=digS_size (h,r,s,id,v)
 have c3:=mSign_eq v (digS (h,r,s,id,v)) (by omega)
 dsimp only [aVt]at c1 c2
 refine zI ?_
 by_cases ho:voteOk (h,r,s,id,v)
 ·have hv:signedB (h,r,s,id,v) sg=decide (sg=signS v (digS (h,r,s,id,v))):=by simp [signedB,ho]
  rw [decide_eq_true ho]at c1
  clear ho
  generalize digS (h,r,s,id,v)=d at*
  refine zR ?_
  refine W.drawB hΓ 12 [[],[0],[0,1],[0,1,2],[0,1,2],[0,1,2,4],[0,1,2],[0,1,2,6],[0,1,2,4,5,6,7],[0,1,2,3,4,5,6,7,8],[0,1,2,3,4,5,6,7,8,9],[0,1,2,3,4,5,6,7,8,9,10]] (Es:=?Es100) (rest:=?rest100) (st1:=?st1100) ?_
  refine zQ ?_
  refine At.retA (by rw [Tryz.results173]) (he:=?_)
  rw [hv]
 ·have hv:signedB (h,r,s,id,v) sg=false:=by simp [signedB,ho]
  rw [decide_eq_false ho]at c1
  clear ho
  refine zR ?_
  refine W.drawB hΓ 12 [[],[0],[0,1],[0,1,2],[0,1,2],[0,1,2,4],[0,1,2],[0,1,2,6],[0,1,2,4,5,6,7],[0,1,2,3,4,5,6,7,8],[0,1,2,3,4,5,6,7,8,9],[0,1,2,3,4,5,6,7,8,9,10]] (Es:=?Es104) (rest:=?rest104) (st1:=?st1104) ?_
  refine zQ ?_
  refine At.retA (by rw [Tryz.results173]) (he:=?_)
  rw [hv]
end
section
def showK (l:List TVal):Nat→ByteArray
 |0=>varS l.length
 |k+1=>showK l k++varS (l.getD k (0,0)).1++varS (l.getD k (0,0)).2
theorem showK_size (l:List TVal):∀k,(showK l k).size≤7+14*k
 |0=>varS_size _
 |k+1=>by
  have h:=showK_size l k
  have h1:=varS_size (l.getD k (0,0)).1
  have h2:=varS_size (l.getD k (0,0)).2
  show(showK l k++varS (l.getD k (0,0)).1++varS (l.getD k (0,0)).2).size≤_
  rw [ByteArray.size_append,ByteArray.size_append]
  omega
theorem showK_succ {l:List TVal}{k:Nat}(h:k<l.length):showK l (k+1)=showK l k++varS l[k].1++varS l[k].2:=by
 show showK l k++varS (l.getD k (0,0)).1++varS (l.getD k (0,0)).2=_
 rw [List.getD_eq_getElem?_getD,gsE h,Option.getD_some]
def showV (l:List TVal):ByteArray:=if valsOk l then showK l l.length else ByteArray.empty
theorem showV_yes {l:List TVal}(h:valsOk l):showV l=showK l l.length:=if_pos h
theorem showV_no {l:List TVal}(h:¬valsOk l):showV l=ByteArray.empty:=if_neg h
theorem showV_size (l:List TVal):(showV l).size≤105:=by
 by_cases h:valsOk l
 ·rw [showV_yes h]
  have:=showK_size l l.length
  have:=h.1.2
  omega
 ·rw [showV_no h];simp
noncomputable def mShowV:=mdl (fun l:List TVal=>l.length≤8796093022207) (fun l=>[aL cVal l]) (fun l=>rS (showV l))
theorem mShowV_eq (l:List TVal)(h:l.length≤8796093022207):mShowV [aL cVal l]=some (rS (showV l)):=mdl_eq (by intro a b h;simpa using h) l h
theorem showVS_s:Sound Tryz.prog 96 mShowV:=by
 refine Sound.mdl Tryz.func96 rfl Tryz.ntmps96 ?_
 rintro l w hl
 refine⟨by simp,?_⟩
 replace hl:l.length≤8796093022207:=hl
 have hΓ:=env_cons (hsO Tryz.func75) valsS_s (env_cons (hsO Tryz.func106) varSpec_s env_nil)
 have c1:=mVals_eq l hl
 have c2:=mVar_eq l.length
 refine zI ?_
 by_cases hv:valsOk l
 ·have h7:=hv.1.2
  have hz:varS l.length=showK l 0:=rfl
  refine zR ?_
  refine W.loopA (fun k=>k≤l.length) (fun k:Nat=>[.slot 4 (vI k),.slot 3 (vS (showK l k)),.slot 0 (vL cVal l)]) (fun k=>l.length-k) 0 (Nat.zero_le _) (h:=?_)
  rintro k hk
  clear hz c1 c2
  have hs:=showK_size l k
  by_cases hlt:k<l.length
  ·have hrow:=row_at cVal l hlt
   simp only [cVal,List.map_cons,List.map_nil]at hrow
   have e:=showK_succ hlt
   have v1:=mVar_eq l[k].1
   have v2:=mVar_eq l[k].2
   have s1:=varS_size l[k].1
   have s2:=varS_size l[k].2
   generalize varS l[k].1=x1 at*
   generalize varS l[k].2=x2 at*
   have e1:=bsA (a:=showK l k) (b:=x1)
   refine zR ?_
   refine W.drawB hΓ 16 [[],[],[],[1,2],[1,2,3],[1,2,3,4],[1,2,3,4,5],[0,1,2,3,4,5,6],[],[],[8,9],[8,9,10],[8,9,10,11],[1,2,3,4,5,6,8,9,10,11,12],[0,1,2,3,4,5,6,7,8,9,10,11,12,13],[0,1,2,3,4,5,6,7,8,9,10,11,12,13,14]] (Es:=?Es5) (rest:=?rest5) (st1:=?st15) ?_
   refine zQ ?_
   exact At.roundA (k+1) (by omega) (by omega)
  ·have hke:k=l.length:=by omega
   subst hke
   refine zR ?_
   refine At.retA (by rw [Tryz.results96]) (he:=?_)
   rw [showV_yes hv]
 ·have hn:=showV_no hv
  refine zR ?_
  refine At.retA (by rw [Tryz.results96]) (he:=?_)
  rw [hn]
  rfl
theorem showVI_s:Sound Tryz.prog 214 mShowV:=by
 refine Sound.mdl Tryz.func214 rfl Tryz.ntmps214 ?_
 rintro l w hl
 refine⟨by simp,?_⟩
 replace hl:l.length≤8796093022207:=hl
 have hΓ:=env_cons (hsO Tryz.func168) valsI_s (env_cons (hsO Tryz.func232) varImpl_s env_nil)
 have c1:=mVals_eq l hl
 have c2:=mVar_eq l.length
 refine zI ?_
 by_cases hv:valsOk l
 ·have h7:=hv.1.2
  have hz:varS l.length=showK l 0:=rfl
  refine zR ?_
  refine W.loopA (fun k=>k≤l.length) (fun k:Nat=>[.slot 14 (vI k),.slot 13 (vI l.length),.slot 12 (vL cVal l),.slot 3 (vS (showK l k))]) (fun k=>l.length-k) 0 (Nat.zero_le _) (h:=?_)
  rintro k hk
  clear hz c1 c2
  have hs:=showK_size l k
  by_cases hlt:k<l.length
  ·have hrow:=row_at cVal l hlt
   simp only [cVal,List.map_cons,List.map_nil]at hrow
   have e:=showK_succ hlt
   have v1:=mVar_eq l[k].1
   have v2:=mVar_eq l[k].2
   have s1:=varS_size l[k].1
   have s2:=varS_size l[k].2
   generalize varS l[k].1=x1 at*
   generalize varS l[k].2=x2 at*
   have e1:=bsA (a:=showK l k) (b:=x1)
   refine zR ?_
   refine W.drawB hΓ 10 [[],[],[1],[1,2],[0,1,2,3],[],[5],[1,2,3,5,6],[0,1,2,3,4,5,6,7],[0,1,2,3,4,5,6,7,8]] (Es:=?Es15) (rest:=?rest15) (st1:=?st115) ?_
   refine zQ ?_
   exact At.roundA (k+1) (by omega) (by omega)
  ·have hke:k=l.length:=by omega
   subst hke
   refine zR ?_
   refine At.retA (by rw [Tryz.results214]) (he:=?_)
   rw [showV_yes hv]
 ·have hn:=showV_no hv
  refine zR ?_
  refine At.retA (by rw [Tryz.results214]) (he:=?_)
  rw [hn]
  rfl
def vhash (l:List TVal):ByteArray:=if valsOk l then shortS (showV l)else ByteArray.empty
theorem vhash_no {l:List TVal}(h:¬valsOk l):vhash l=ByteArray.empty:=if_neg h
theorem vhash_yes {l:List TVal}(h:valsOk l):vhash l=shortS (showV l):=if_pos h
noncomputable def mVHash:=mdl (fun l:List TVal=>l.length≤8796093022207) (fun l=>[aL cVal l]) (fun l=>rS (vhash l))
theorem mVHash_eq (l:List TVal)(h:l.length≤8796093022207):mVHash [aL cVal l]=some (rS (vhash l)):=mdl_eq (by intro a b h;simpa using h) l h
theorem vhashS_s:Sound Tryz.prog 43 mVHash:=by
 refine Sound.mdl Tryz.func43 rfl Tryz.ntmps43 ?_
 rintro l w hl
 refine⟨by simp,?_⟩
 replace hl:l.length≤8796093022207:=hl
 have hΓ:=env_cons (hsO Tryz.func75) valsS_s (env_cons (hsO Tryz.func96) showVS_s (env_cons (hsO Tryz.func51) short_s env_nil))
 have c1:=mVals_eq l hl
 have c2:=mShowV_eq l hl
 have hz:=showV_size l
 have c3:=mShort_eq (showV l) (by omega)
 refine zI ?_
 by_cases hv:valsOk l
 ·have e:=vhash_yes hv
  rw [decide_eq_true hv]at c1
  clear hv
  refine zR ?_
  refine At.retA (by rw [Tryz.results43]) (he:=?_)
  rw [e]
 ·have e:=vhash_no hv
  rw [decide_eq_false hv]at c1
  clear hv
  refine zR ?_
  refine At.retA (by rw [Tryz.results43]) (he:=?_)
  rw [e]
  rfl
theorem vhashI_s:Sound Tryz.prog 166 mVHash:=by
 refine Sound.mdl Tryz.func166 rfl Tryz.ntmps166 ?_
 rintro l w hl
 refine⟨by simp,?_⟩
 replace hl:l.length≤8796093022207:=hl
 have hΓ:=env_cons (hsO Tryz.func168) valsI_s (env_cons (hsO Tryz.func214) showVI_s (env_cons (hsO Tryz.func187) shortI_s env_nil))
 have c1:=mVals_eq l hl
 have c2:=mShowV_eq l hl
 have hz:=showV_size l
 have c3:=mShort_eq (showV l) (by omega)
 refine zI ?_
 by_cases hv:valsOk l
 ·have e:=vhash_yes hv
  rw [decide_eq_true hv]at c1
  clear hv
  refine zR ?_
  refine At.retA (by rw [Tryz.results166]) (he:=?_)
  rw [e]
 ·have e:=vhash_no hv
  rw [decide_eq_false hv]at c1
  clear hv
  refine zR ?_
  refine At.retA (by rw [Tryz.results166]) (he:=?_)
  rw [e]
  rfl
def headId (h:THeader):ByteArray:=if headOk h then shortS (showHead h)else ByteArray.empty
theorem headId_no {h:THeader}(ho:¬headOk h):headId h=ByteArray.empty:=if_neg ho
theorem headId_yes {h:THeader}(ho:headOk h):headId h=shortS (showHead h):=if_pos ho
theorem headId_size (h:THeader):(headId h).size≤8:=by
 unfold headId
 split
 ·rw [shortS_size];exact Nat.le_refl _
 ·simp
noncomputable def mHeadId:=mdl (fun _:THeader=>True) (fun h=>[aHd h]) (fun h=>rS (headId h))
theorem mHeadId_eq (h:THeader):mHeadId [aHd h]=some (rS (headId h)):=mdl_eq aHd_inj h trivial
theorem headIdS_s:Sound Tryz.prog 13 mHeadId:=by
 refine Sound.mdl Tryz.func13 rfl Tryz.ntmps13 ?_
 rintro⟨h,t,la,va,ne,da⟩ w-
 refine⟨by simp,?_⟩
 have hΓ:=env_cons (hsO Tryz.func50) headS_s (env_cons (hsO Tryz.func52) showHdS_s (env_cons (hsO Tryz.func51) short_s env_nil))
 have c1:=mHead_eq (h,t,la,va,ne,da)
 have c2:=mShowHd_eq (h,t,la,va,ne,da)
 have hz:=showHead_size (h,t,la,va,ne,da)
 have c3:=mShort_eq (showHead (h,t,la,va,ne,da)) (by omega)
 dsimp only [aHd]at c1 c2
 refine zI ?_
 by_cases hv:headOk (h,t,la,va,ne,da)
 ·have e:=headId_yes hv
  rw [decide_eq_true hv]at c1
  clear hv
  generalize showHead (h,t,la,va,ne,da)=x at*
  refine zR ?_
  refine At.retA (by rw [Tryz.results13]) (he:=?_)
  rw [e]
 ·have e:=headId_no hv
  rw [decide_eq_false hv]at c1
  clear hv
  refine zR ?_
  refine At.retA (by rw [Tryz.results13]) (he:=?_)
  rw [e]
  rfl
theorem headIdI_s:Sound Tryz.prog 144 mHeadId:=by
 refine Sound.mdl Tryz.func144 rfl Tryz.ntmps144 ?_
 rintro⟨h,t,la,va,ne,da⟩ w-
 refine⟨by simp,?_⟩
 have hΓ:=env_cons (hsO Tryz.func165) headI_s (env_cons (hsO Tryz.func188) showHdI_s (env_cons (hsO Tryz.func187) shortI_s env_nil))
 have c1:=mHead_eq (h,t,la,va,ne,da)
 have c2:=mShowHd_eq (h,t,la,va,ne,da)
 have hz:=showHead_size (h,t,la,va,ne,da)
 have c3:=mShort_eq (showHead (h,t,la,va,ne,da)) (by omega)
 dsimp only [aHd]at c1 c2
 refine zI ?_
 by_cases hv:headOk (h,t,la,va,ne,da)
 ·have e:=headId_yes hv
  rw [decide_eq_true hv]at c1
  clear hv
  generalize showHead (h,t,la,va,ne,da)=x at*
  refine zR ?_
  refine At.retA (by rw [Tryz.results144]) (he:=?_)
  rw [e]
 ·have e:=headId_no hv
  rw [decide_eq_false hv]at c1
  clear hv
  refine zR ?_
  refine At.retA (by rw [Tryz.results144]) (he:=?_)
  rw [e]
  rfl
abbrev TAnchor:=THeader×List TVal
abbrev aAn (a:TAnchor):Arg:=.val true [.sc (.int .i64 a.1.1),.sc (.int .i64 a.1.2.1),.sc (.string a.1.2.2.1),.sc (.string a.1.2.2.2.1),.sc (.string a.1.2.2.2.2.1),.sc (.string a.1.2.2.2.2.2),.sl (rowsF cVal a.2)]
theorem aAn_inj:∀x y:TAnchor,[aAn x]=[aAn y]→x=y:=by
 rintro⟨⟨a,b,c,d,e,f⟩,l⟩ ⟨⟨a',b',c',d',e',f'⟩,l'⟩ h
 simpa [aAn,and_assoc]using h
def anchorOk (a:TAnchor):Prop:=headOk a.1∧valsOk a.2∧vhash a.2=a.1.2.2.2.2.1
instance (a:TAnchor):Decidable (anchorOk a):=by unfold anchorOk;infer_instance
noncomputable def mAnchor:=mdl (fun a:TAnchor=>a.2.length≤8796093022207) (fun a=>[aAn a]) (fun a=>rB (decide (anchorOk a)))
theorem mAnchor_eq (a:TAnchor)(h:a.2.length≤8796093022207):mAnchor [aAn a]=some (rB (decide (anchorOk a))):=mdl_eq aAn_inj a h
def asEvVHash0:List (List Nat):=[[],[0],[0,1],[0,1,2],[0,1,2,3],[0,1,2,3,4],[0,1,2,3,4,5],[0,1,2,3,4,5,6],[0,1,2,3,4,5,6,7],[0,1,2,3,4,5,6,7,8],[0,1,2,3,4,5,6,7,8,9],[0,1,2,3,4,5,6,7,8,9,10],[0,1,2,3,4,5,6,7,8],[0,1,2,3,4,5,6,7,8,12],[0,1,2,3,4,5,6,7,8,12,13],[0,1,2,3,4,5,6,7,8,9,10,11,12,13,14],[0,1,2,3,4,5,6,7,8,9,10,11,12,13,14,15],[0,1,2,3,4,5,6,7,8,9,10,11,12,13,14,15,16]]
theorem anchorS_s:Sound Tryz.prog 72 mAnchor:=by
 refine Sound.mdl Tryz.func72 rfl Tryz.ntmps72 ?_
 rintro⟨⟨h,t,la,va,ne,da⟩,l⟩ w hl
 refine⟨by simp,?_⟩
 replace hl:l.length≤8796093022207:=hl
 have hΓ:=env_cons (hsO Tryz.func50) headS_s (env_cons (hsO Tryz.func75) valsS_s (env_cons (hsO Tryz.func43) vhashS_s env_nil))
 have c1:=mHead_eq (h,t,la,va,ne,da)
 have c2:=mVals_eq l hl
 have c3:=mVHash_eq l hl
 dsimp only [aHd]at c1
 have key:decide (anchorOk ((h,t,la,va,ne,da),l))=(decide (headOk (h,t,la,va,ne,da))&&(decide (valsOk l)&&decide (vhash l=ne))):=by
  rw [Bool.eq_iff_iff]
  simp only [Bool.and_eq_true,decide_eq_true_eq]
  exact Iff.rfl
 refine zI ?_
 generalize vhash l=x at*
 cases hd:decide (headOk (h,t,la,va,ne,da))with
 |false=>
  rw [hd]at c1 key
  refine zR ?_
  refine W.drawB hΓ 18 asEvVHash0 (Es:=?Es48) (rest:=?rest48) (st1:=?st148) ?_
  refine zQ ?_
  refine At.retA (by rw [Tryz.results72]) (he:=?_)
  rw [key]
  rfl
 |true=>
  rw [hd]at c1 key
  cases hv:decide (valsOk l)with
  |false=>
   rw [hv]at c2 key
   refine zR ?_
   refine W.drawB hΓ 18 asEvVHash0 (Es:=?Es52) (rest:=?rest52) (st1:=?st152) ?_
   refine zQ ?_
   refine At.retA (by rw [Tryz.results72]) (he:=?_)
   rw [key]
   rfl
  |true=>
   rw [hv]at c2 key
   refine zR ?_
   refine W.drawB hΓ 18 asEvVHash0 (Es:=?Es56) (rest:=?rest56) (st1:=?st156) ?_
   refine zQ ?_
   refine At.retA (by rw [Tryz.results72]) (he:=?_)
   rw [key]
   rfl
theorem anchorI_s:Sound Tryz.prog 123 mAnchor:=by
 refine Sound.mdl Tryz.func123 rfl Tryz.ntmps123 ?_
 rintro⟨⟨h,t,la,va,ne,da⟩,l⟩ w hl
 refine⟨by simp,?_⟩
 replace hl:l.length≤8796093022207:=hl
 have hΓ:=env_cons (hsO Tryz.func165) headI_s (env_cons (hsO Tryz.func166) vhashI_s env_nil)
 have c1:=mHead_eq (h,t,la,va,ne,da)
 have c3:=mVHash_eq l hl
 dsimp only [aHd]at c1
 have key:decide (anchorOk ((h,t,la,va,ne,da),l))=(decide (headOk (h,t,la,va,ne,da))&&decide (vhash l=ne)):=by
  by_cases ho:headOk (h,t,la,va,ne,da)
  ·by_cases hv:valsOk l
   ·simp [anchorOk,ho,hv]
   ·have hn:¬vhash l=ne:=fun e=>by
     have h1:(ne.size:Int)=8:=ho.2.2.2.1
     rw [←e,vhash_no hv]at h1
     simp at h1
    simp [anchorOk,hv,hn]
  ·simp [anchorOk,ho]
 refine zI ?_
 generalize vhash l=x at*
 cases hd:decide (headOk (h,t,la,va,ne,da))with
 |false=>
  rw [hd]at c1 key
  refine zR ?_
  refine W.drawB hΓ 13 [[],[0],[0,1],[0,1,2],[0,1,2,3],[0,1,2,3,4],[0,1,2,3,4,5],[0,1,2,3],[0,1,2,3,7],[0,1,2,3,7,8],[0,1,2,3,4,5,6,7,8,9],[0,1,2,3,4,5,6,7,8,9,10],[0,1,2,3,4,5,6,7,8,9,10,11]] (Es:=?Es62) (rest:=?rest62) (st1:=?st162) ?_
  refine zQ ?_
  refine At.retA (by rw [Tryz.results123]) (he:=?_)
  rw [key]
  rfl
 |true=>
  rw [hd]at c1 key
  refine zR ?_
  refine W.drawB hΓ 13 [[],[0],[0,1],[0,1,2],[0,1,2,3],[0,1,2,3,4],[0,1,2,3,4,5],[0,1,2,3],[0,1,2,3,7],[0,1,2,3,7,8],[0,1,2,3,4,5,6,7,8,9],[0,1,2,3,4,5,6,7,8,9,10],[0,1,2,3,4,5,6,7,8,9,10,11]] (Es:=?Es66) (rest:=?rest66) (st1:=?st166) ?_
  refine zQ ?_
  refine At.retA (by rw [Tryz.results123]) (he:=?_)
  rw [key]
  rfl
end
section
theorem strict_ext:∀{a b:List Int},a.Pairwise (· <·)→b.Pairwise (· <·)→(∀x,x∈a↔x∈b)→a=b
 |[],[],_,_,_=>rfl
 |[],y::r,_,_,h=>by have:=(h y).2 (List.mem_cons_self ..);cases this
 |x::r,[],_,_,h=>by have:=(h x).1 (List.mem_cons_self ..);cases this
 |x::r,y::q,ha,hb,h=>by
  rw [List.pairwise_cons]at ha hb
  have h1:=(h x).1 (List.mem_cons_self ..)
  have h2:=(h y).2 (List.mem_cons_self ..)
  have e:x=y:=by
   rcases List.mem_cons.1 h1 with h1|h1
   ·exact h1
   ·rcases List.mem_cons.1 h2 with h2|h2
    ·exact h2.symm
    ·have:=hb.1 x h1;have:=ha.1 y h2;omega
  subst e
  rw [strict_ext ha.2 hb.2 fun z=>⟨fun hz=>?_,fun hz=>?_⟩]
  ·rcases List.mem_cons.1 ((h z).1 (List.mem_cons_of_mem _ hz))with e|e
   ·have:=ha.1 z hz;omega
   ·exact e
  ·rcases List.mem_cons.1 ((h z).2 (List.mem_cons_of_mem _ hz))with e|e
   ·have:=hb.1 z hz;omega
   ·exact e
theorem compact_up {l:List Int}(h:l.Pairwise (· ≤·)):∀m,m≤l.length→(Lib.compactUpTo l.toArray m).Pairwise (· <·)∧∀x,x∈Lib.compactUpTo l.toArray m↔∃i,i<m∧l[i]?=some x
 |0,_=>⟨List.Pairwise.nil,fun x=>⟨fun h=>by simp [Lib.compactUpTo]at h,fun⟨i,hi,_⟩=>by omega⟩⟩
 |m+1,hm=>by
  obtain⟨h1,h2⟩:=compact_up h m (by omega)
  have hg:∀i,i<l.length→l.toArray[i]! =l.getD i 0:=fun i hi=>by simp [hi]
  have hgi:∀i,i<l.length→l[i]?=some (l.getD i 0):=fun i hi=>by simp [List.getD_eq_getElem?_getD,hi]
  have hle:∀i j,i≤j→j<l.length→l.getD i 0≤l.getD j 0:=fun i j hij hj=>by
   by_cases e:i=j
   ·rw [e];exact Int.le_refl _
   ·have:=List.pairwise_iff_getElem.1 h i j (by omega) hj (by omega)
    simpa [List.getD_eq_getElem?_getD,hj,show i<l.length by omega]using this
  rw [Lib.compactUpTo_succ]
  cases hk:Lib.keeps l.toArray m with
  |true=>
   rw [if_pos rfl,hg m (by omega)]
   refine⟨List.pairwise_append.2 ⟨h1,List.pairwise_singleton _ _,fun x hx y hy=>?_⟩,fun x=>?_⟩
   ·rw [List.mem_singleton]at hy
    subst hy
    obtain⟨i,hi,hx⟩:=(h2 x).1 hx
    rw [hgi i (by omega)]at hx
    cases hx
    have a1:=hle i (m-1) (by omega) (by omega)
    have a2:=hle (m-1) m (by omega) (by omega)
    have hne:l.getD m 0≠l.getD (m-1) 0:=by
     have:=of_decide_eq_true hk
     rw [hg m (by omega),hg (m-1) (by omega)]at this
     rcases this with h|h
     ·omega
     ·exact h
    omega
   ·rw [List.mem_append,List.mem_singleton,h2]
    constructor
    ·rintro(⟨i,hi,hx⟩|rfl)
     ·exact⟨i,by omega,hx⟩
     ·exact⟨m,by omega,hgi m (by omega)⟩
    ·rintro⟨i,hi,hx⟩
     by_cases e:i=m
     ·subst e
      rw [hgi i (by omega)]at hx
      cases hx
      exact .inr rfl
     ·exact .inl ⟨i,by omega,hx⟩
  |false=>
   rw [if_neg (by simp),List.append_nil]
   refine⟨h1,fun x=>?_⟩
   have hne:=of_decide_eq_false hk
   rw [not_or,hg m (by omega),hg (m-1) (by omega)]at hne
   obtain⟨n1,n2⟩:=hne
   have n3:l.getD m 0=l.getD (m-1) 0:=Classical.not_not.1 n2
   rw [h2]
   constructor
   ·rintro⟨i,hi,hx⟩;exact⟨i,by omega,hx⟩
   ·rintro⟨i,hi,hx⟩
    by_cases e:i=m
    ·subst e
     exact⟨i-1,by omega,by rw [hgi i (by omega),n3]at hx;rw [hgi (i-1) (by omega)];exact hx⟩
    ·exact⟨i,by omega,hx⟩
theorem compact_strict {l:List Int}(h:l.Pairwise (· ≤·)):(Lib.compact l).Pairwise (· <·)∧∀x,x∈Lib.compact l↔x∈l:=by
 obtain⟨h1,h2⟩:=compact_up h l.length (Nat.le_refl _)
 refine⟨h1,fun x=>?_⟩
 show x∈Lib.compactUpTo l.toArray l.length↔_
 rw [h2,List.mem_iff_getElem?]
 constructor
 ·rintro⟨i,_,h⟩;exact⟨i,h⟩
 ·rintro⟨i,h⟩;exact⟨i,(gsS h).1,h⟩
abbrev TCommit:=Int×Int×ByteArray×List TCSig
abbrev aCm (c:TCommit):Arg:=.val true [.sc (.int .i64 c.1),.sc (.int .i64 c.2.1),.sc (.string c.2.2.1),.sl (rowsF cCSig c.2.2.2)]
theorem csig_inj {a b:List TCSig}:rowsF cCSig a=rowsF cCSig b↔a=b:=by
 refine⟨fun h=>?_,fun h=>by rw [h]⟩
 unfold rowsF at h
 refine(List.map_inj_right fun x y h=>?_).1 h
 obtain⟨x1,x2⟩:=x
 obtain⟨y1,y2⟩:=y
 simpa [cCSig]using h
theorem aCm_inj:∀x y:TCommit,[aCm x]=[aCm y]→x=y:=by
 rintro⟨a,b,c,l⟩ ⟨a',b',c',l'⟩ h
 simpa [aCm,csig_inj]using h
abbrev okCm (c:TCommit):Prop:=c.2.2.2.length≤8796093022207
def sgAt (c:TCommit)(v:Int)(s:ByteArray):Bool:=signedB (c.1,c.2.1,2,c.2.2.1,v) s
def hasK (c:TCommit)(v:Int)(k:Nat):Bool:=(c.2.2.2.take k).any fun g=>decide (g.1=v)&&sgAt c v g.2
theorem hasK_succ {c:TCommit}{v:Int}{k:Nat}(h:k<c.2.2.2.length):hasK c v (k+1)=(hasK c v k||(decide (c.2.2.2[k].1=v)&&sgAt c v c.2.2.2[k].2)):=by
 unfold hasK
 rw [List.take_succ_eq_append_getElem h,List.any_append]
 simp
def cvK (c:TCommit)(k:Nat):List Int:=((List.range k).map fun i:Nat=>(i:Int)+1).filter fun v=>hasK c v c.2.2.2.length
theorem cvK_succ (c:TCommit)(k:Nat):cvK c (k+1)=cvK c k++(if hasK c ((k:Int)+1) c.2.2.2.length then [(k:Int)+1]else []):=by
 unfold cvK
 rw [List.range_succ,List.map_append,List.filter_append]
 congr 1
 simp only [List.map_cons,List.map_nil,List.filter_cons,List.filter_nil]
theorem cvK_len (c:TCommit)(k:Nat):(cvK c k).length≤k:=by
 unfold cvK
 have:=List.length_filter_le (fun v=>hasK c v c.2.2.2.length) ((List.range k).map fun i:Nat=>(i:Int)+1)
 simpa using this
def cvals (c:TCommit):List Int:=if c.2.2.2.length≤12 then cvK c 99 else []
theorem cvals_len (c:TCommit):(cvals c).length≤99:=by
 unfold cvals
 split
 ·exact cvK_len c 99
 ·simp
noncomputable def mCVals:=mdl okCm (fun c=>[aCm c]) (fun c=>rL 3 1 cInt (cvals c))
theorem mCVals_eq (c:TCommit)(h:okCm c):mCVals [aCm c]=some (rL 3 1 cInt (cvals c)):=mdl_eq aCm_inj c h
abbrev okCmI (x:TCommit×Int):Prop:=okCm x.1
abbrev aCmI (x:TCommit×Int):List Arg:=[aCm x.1,aI x.2]
abbrev rVt (x:TCommit×Int):Res:=Res.comp true [.ro (.sc (.int .i64 x.1.1)),.ro (.sc (.int .i64 x.1.2.1)),.ro (.sc (.int .i64 2)),.ro (.sc (.string x.1.2.2.1)),.ro (.sc (.int .i64 x.2))]
theorem aCmI_inj:∀x y,aCmI x=aCmI y→x=y:=by
 rintro⟨⟨a,b,c,l⟩,v⟩ ⟨⟨a',b',c',l'⟩,v'⟩ h
 simpa [aCmI,aCm,csig_inj,and_assoc]using h
noncomputable def mL9Vote:=mdl okCmI aCmI rVt
theorem mL9Vote_eq (c:TCommit)(v:Int)(h:okCm c):mL9Vote [aCm c,aI v]=some (rVt (c,v)):=mdl_eq aCmI_inj (c,v) h
theorem l9Vote_s:Sound Tryz.prog 79 mL9Vote:=by
 refine Sound.mdl Tryz.func79 rfl Tryz.ntmps79 ?_
 rintro⟨⟨h,r,id,l⟩,v⟩ w hl
 refine⟨by simp,?_⟩
 have hΓ:=eN
 refine zJ ?_
 refine At.retA (by rw [Tryz.results79]) (he:=rfl)
def outK (c:TCommit)(k:Nat):List Int:=((c.2.2.2.take k).filter fun g=>sgAt c g.1 g.2).map (·.1)
theorem outK_succ {c:TCommit}{k:Nat}(h:k<c.2.2.2.length):outK c (k+1)=outK c k++(if sgAt c c.2.2.2[k].1 c.2.2.2[k].2 then [c.2.2.2[k].1]else []):=by
 unfold outK
 rw [List.take_succ_eq_append_getElem h,List.filter_append,List.map_append]
 congr 1
 simp only [List.filter_cons,List.filter_nil]
 split<;>rfl
theorem outK_len (c:TCommit)(k:Nat):(outK c k).length≤k:=by
 unfold outK
 rw [List.length_map]
 refine Nat.le_trans (List.length_filter_le _ _) ?_
 rw [List.length_take]
 omega
theorem cvK_mem (c:TCommit)(x:Int):x∈cvK c 99↔(1≤x∧x≤99)∧hasK c x c.2.2.2.length=true:=by
 unfold cvK
 rw [List.mem_filter,List.mem_map]
 refine and_congr ⟨?_,fun h=>⟨(x-1).toNat,by rw [List.mem_range];omega,by omega⟩⟩ Iff.rfl
 rintro⟨i,hi,rfl⟩
 rw [List.mem_range]at hi
 omega
theorem cvK_strict (c:TCommit)(k:Nat):(cvK c k).Pairwise (· <·):=by
 unfold cvK
 refine List.Pairwise.filter _ ?_
 rw [List.pairwise_map]
 exact(List.pairwise_lt_range (n:=k)).imp fun h=>by omega
theorem outK_mem (c:TCommit)(x:Int):x∈outK c c.2.2.2.length↔(1≤x∧x≤99)∧hasK c x c.2.2.2.length=true:=by
 unfold outK hasK
 rw [List.take_length,List.any_eq_true,List.mem_map]
 constructor
 ·rintro⟨g,hg,rfl⟩
  rw [List.mem_filter]at hg
  obtain⟨h1,h2⟩:=hg
  refine⟨?_,g,h1,by simp [h2]⟩
  unfold sgAt signedB at h2
  rw [Bool.and_eq_true,decide_eq_true_eq]at h2
  exact h2.1.2.2.2.2
 ·rintro⟨_,g,h1,h2⟩
  rw [Bool.and_eq_true,decide_eq_true_eq]at h2
  obtain⟨rfl,h2⟩:=h2
  exact⟨g,List.mem_filter.2 ⟨h1,h2⟩,rfl⟩
theorem cvals_of {c:TCommit}{l':List Int}(hp:l'.Perm (outK c c.2.2.2.length))(hs:l'.Pairwise fun x y=>x≤y)(h12:c.2.2.2.length≤12):Lib.compact l'=cvals c:=by
 obtain⟨h1,h2⟩:=compact_strict hs
 unfold cvals
 rw [if_pos h12]
 refine strict_ext h1 (cvK_strict c 99) fun x=>?_
 rw [h2,hp.mem_iff,outK_mem,cvK_mem]
theorem csig_row {l:List TCSig}{k:Nat}(h:k<l.length):(rowsF cCSig l)[k]?=some [.sc (.int .i64 l[k].1),.sc (.string l[k].2)]:=rowsF_get cCSig l k h
def asEvCVals0:List (List Nat):=[[],[0],[0,1],[0,1,2],[0,1],[0,1,2,3,4],[0,1,2,3,4,5],[0,1,2,3,4,5,6],[0,1],[0,1,2,3,4,5,6,7,8],[0,1,2,3,4,5,6,7,8,9],[0,1,2,3,4,5,6,7,8,9,10],[0,1,2,3,4,5,6,7,8,9,10],[0,1,2,3,4,5,6,7,8,9,10,11,12],[0,1,2,3,4,5,6,7,8,9,10],[0,1,2,3,4,5,6,7,8,9,10,14],[0,1,2,3,4,5,6,7,8,9,10],[0,1,2,3,4,5,6,7,8,9,10,14,15,16],[0,1,2,3,4,5,6,7,8,9,10,14,15,16,17],[0,1,2,3,4,5,6,7,8,9,10,14,15,16,17,18],[0,1,2,3,4,5,6,7,8,9,10,11,12,13,14,15,16,17,18,19],[0,1,2,3,4,5,6,7,8,9,10,11,12,13,14,15,16,17,18,19,20],[0,1,2,3,4,5,6,7,8,9,10,11,12,13,14,15,16,17,18,19,20,21],[0,1,2,3,4,5,6,7,8,9,10,11,12,13,14,15,16,17,18,19,20,21,22]]
theorem cvalsS_s:Sound Tryz.prog 25 mCVals:=by
 refine Sound.mdl Tryz.func25 rfl Tryz.ntmps25 ?_
 rintro⟨h,r,id,l⟩ w hl
 refine⟨by simp,?_⟩
 replace hl:l.length≤8796093022207:=hl
 have hΓ:=env_cons (hsO Tryz.func79) l9Vote_s (env_cons (hsO Tryz.func78) signedS_s env_nil)
 have hlen:=rowsF_len cCSig l
 have hnil:rowsF cInt []=[]:=rfl
 refine zI ?_
 by_cases h12:l.length≤12
 ·have hcv:cvals (h,r,id,l)=cvK (h,r,id,l) 99:=if_pos h12
  have hz:rowsF cInt (cvK (h,r,id,l) 0)=[]:=rfl
  refine zR ?_
  refine W.loopA (fun k=>k≤99) (fun k:Nat=>[.slot 1 (one (.ptr 1 0)),.blk 1 (.box [.sc (.int .i64 h),.sc (.int .i64 r),.sc (.string id),.sl (rowsF cCSig l)]),.slot 4 (vI ((k:Int)+1)),.slot 3 (one (.all 7)),.blk 7 (.arr .ft 3 1 (rowsF cInt (cvK (h,r,id,l) k)))]) (fun k=>99-k) 0 (Nat.zero_le _) (h:=?_)
  rintro k hk
  clear hz hnil
  have hcl:=cvK_len (h,r,id,l) k
  by_cases hlt:k<99
  ·have hsu:=cvK_succ (h,r,id,l) k
   dsimp only at hsu
   refine zR ?_
   refine W.loopA (fun j=>j≤l.length) (fun j:Nat=>[.slot 1 (one (.ptr 1 0)),.blk 1 (.box [.sc (.int .i64 h),.sc (.int .i64 r),.sc (.string id),.sl (rowsF cCSig l)]),.slot 4 (vI ((k:Int)+1)),.slot 3 (one (.all 7)),.blk 7 (.arr .ft 3 1 (rowsF cInt (cvK (h,r,id,l) k))),.slot 5 (vB (hasK (h,r,id,l) ((k:Int)+1) j)),.slot 6 (vI j)]) (fun j=>l.length-j) 0 (Nat.zero_le _) (h:=?_)
   rintro j hj
   by_cases hjl:j<l.length
   ·have hrow:=csig_row hjl
    have hsj:=hasK_succ (c:=(h,r,id,l)) (v:=(k:Int)+1) hjl
    have c1:=mL9Vote_eq (h,r,id,l) ((k:Int)+1) hl
    have c2:=mSigned_eq (h,r,2,id,(k:Int)+1) l[j].2
    dsimp only [aCm,aVt,sgAt]at c1 c2 hsj
    generalize signedB (h,r,2,id,(k:Int)+1) l[j].2=sb at*
    clear hsu hcv
    cases hh:hasK (h,r,id,l) ((k:Int)+1) j with
    |true=>
     rw [hh,Bool.true_or]at hsj
     refine zR ?_
     refine W.drawB hΓ 24 asEvCVals0 (Es:=?Es10) (rest:=?rest10) (st1:=?st110) ?_
     refine zQ ?_
     exact At.roundA (j+1) (by omega) (by omega)
    |false=>
     rw [hh,Bool.false_or]at hsj
     by_cases hq:l[j].1=(k:Int)+1
     ·have hqd:decide (l[j].1=(k:Int)+1)=true:=dcT hq
      rw [hqd,Bool.true_and]at hsj
      clear hq
      refine zR ?_
      refine W.drawB hΓ 24 asEvCVals0 (Es:=?Es13) (rest:=?rest13) (st1:=?st113) ?_
      refine zQ ?_
      exact At.roundA (j+1) (by omega) (by omega)
     ·have hqd:decide (l[j].1=(k:Int)+1)=false:=dcF hq
      rw [hqd,Bool.false_and]at hsj
      clear hq
      refine zR ?_
      refine W.drawB hΓ 24 asEvCVals0 (Es:=?Es16) (rest:=?rest16) (st1:=?st116) ?_
      refine zQ ?_
      exact At.roundA (j+1) (by omega) (by omega)
   ·have hje:j=l.length:=by omega
    subst hje
    cases hh:hasK (h,r,id,l) ((k:Int)+1) l.length with
    |true=>
     rw [hh,if_pos rfl]at hsu
     have e:rowsF cInt (cvK (h,r,id,l) k)++[[.sc (.int .i64 ((k:Int)+1))]]=rowsF cInt (cvK (h,r,id,l) (k+1)):=by rw [hsu,←rowsF_app];rfl
     clear hsu
     refine zR ?_
     exact At.roundA (k+1) (by omega) (by omega)
    |false=>
     rw [hh,if_neg (by simp),List.append_nil]at hsu
     refine zR ?_
     exact At.roundA (k+1) (by omega) (by omega)
  ·have hke:k=99:=by omega
   subst hke
   refine zR ?_
   refine At.retA (by rw [Tryz.results25]) (he:=?_)
   rw [hcv]
 ·have hcv:cvals (h,r,id,l)=[]:=if_neg h12
  refine zR ?_
  refine At.retA (by rw [Tryz.results25]) (he:=?_)
  rw [hcv]
  rfl
noncomputable def mCValsI:=mdl okCm (fun c=>[aCm c]) (fun c=>if c.2.2.2.length≤12 then rL 3 1 cInt (cvals c)else rN)
theorem mCValsI_eq (c:TCommit)(h:okCm c)(h12:c.2.2.2.length≤12):mCValsI [aCm c]=some (rL 3 1 cInt (cvals c)):=by
 have:=mdl_eq (ok:=okCm) (enc:=fun c=>[aCm c]) (g:=fun c=>if c.2.2.2.length≤12 then rL 3 1 cInt (cvals c)else rN) aCm_inj c h
 rw [if_pos h12]at this
 exact this
theorem mCValsI_no (c:TCommit)(h:okCm c)(h12:¬c.2.2.2.length≤12):mCValsI [aCm c]=some rN:=by
 have:=mdl_eq (ok:=okCm) (enc:=fun c=>[aCm c]) (g:=fun c=>if c.2.2.2.length≤12 then rL 3 1 cInt (cvals c)else rN) aCm_inj c h
 rw [if_neg h12]at this
 exact this
theorem cvalsI_s:Sound Tryz.prog 128 mCValsI:=by
 refine Sound.mdl Tryz.func128 rfl Tryz.ntmps128 ?_
 rintro⟨h,r,id,l⟩ w hl
 refine⟨by simp,?_⟩
 replace hl:l.length≤8796093022207:=hl
 have hΓ:=env_cons (hsO Tryz.func173) signedI_s env_nil
 have hSo:Has Tryz.prog 174:=hsO Tryz.func174
 have hCo:Has Tryz.prog 175:=hsO Tryz.func175
 have hlen:=rowsF_len cCSig l
 have hnil:rowsF cInt []=[]:=rfl
 refine zI ?_
 by_cases h12:l.length≤12
 ·have hz:rowsF cInt (outK (h,r,id,l) 0)=[]:=rfl
  refine zR ?_
  refine W.loopA (fun k=>k≤l.length) (fun k:Nat=>[.slot 1 (one (.ptr 1 0)),.blk 1 (.box [.sc (.int .i64 h),.sc (.int .i64 r),.sc (.string id),.sl (rowsF cCSig l)]),.slot 12 (one (.sl (rowsF cCSig l))),.slot 13 (vI l.length),.slot 14 (vI k),.slot 3 (one (.all 10)),.blk 10 (.arr .ft 3 1 (rowsF cInt (outK (h,r,id,l) k)))]) (fun k=>l.length-k) 0 (Nat.zero_le _) (h:=?_)
  rintro k hk
  clear hz hnil
  have hol:=outK_len (h,r,id,l) k
  by_cases hlt:k<l.length
  ·have hrow:=csig_row hlt
   have hs1:signedB (h,r,2,id,l[k].1) l[k].2=true→outK (h,r,id,l) (k+1)=outK (h,r,id,l) k++[l[k].1]:=fun e=>by rw [outK_succ (c:=(h,r,id,l)) hlt];exact congrArg (outK (h,r,id,l) k++·) (if_pos e)
   have hs2:signedB (h,r,2,id,l[k].1) l[k].2=false→outK (h,r,id,l) (k+1)=outK (h,r,id,l) k:=fun e=>by
    have e':¬sgAt (h,r,id,l) l[k].1 l[k].2=true:=by show¬signedB (h,r,2,id,l[k].1) l[k].2=true;rw [e];simp
    have:=outK_succ (c:=(h,r,id,l)) hlt
    rw [this]
    refine(congrArg (outK (h,r,id,l) k++·) (if_neg e')).trans (List.append_nil _)
   have c2:=mSigned_eq (h,r,2,id,l[k].1) l[k].2
   dsimp only [aVt]at c2
   cases hsb:signedB (h,r,2,id,l[k].1) l[k].2 with
   |true=>
    have hsu:=hs1 hsb
    rw [hsb]at c2
    clear hs1 hs2
    have e:rowsF cInt (outK (h,r,id,l) k)++[[.sc (.int .i64 l[k].1)]]=rowsF cInt (outK (h,r,id,l) (k+1)):=by rw [hsu,←rowsF_app];rfl
    clear hsu hsb
    refine zR ?_
    exact At.roundA (k+1) (by omega) (by omega)
   |false=>
    have hsu:=hs2 hsb
    rw [hsb]at c2
    clear hsb hs1 hs2
    refine zR ?_
    exact At.roundA (k+1) (by omega) (by omega)
  ·have hke:k=l.length:=by omega
   subst hke
   refine zV ?_
   refine WL.opSort1A (n:=10) hSo sortI_s (fun _=>rfl) (outK (h,r,id,l) l.length) (by omega) (h:=?_)
   rintro l' hp hs
   refine zM ?_
   have hcv:=cvals_of (c:=(h,r,id,l)) hp hs h12
   have hl':l'.length≤12:=by rw [hp.length_eq];omega
   clear hp hs
   refine zV ?_
   refine WL.opCut1A (n:=10) hCo (compI_s _) l' (by omega) (h:=?_)
   rw [hcv]
   refine zQ ?_
   refine At.retA (by rw [Tryz.results128]) (he:=?_)
   simp only [if_pos h12]
 ·refine zR ?_
  refine At.retA (by rw [Tryz.results128]) (he:=?_)
  simp only [if_neg h12]
end
end Go.Proofs.YtfgkfcfplodaoaaGreatDoor
