/-
  Put together out of 7 texts.
-/
import Derived.Test.YtfgkfcfplodaoaaGreatDoorG14
import Derived.Test.YtfgkfcfplodaoaaGreatDoorG10
set_option linter.unusedSimpArgs false
set_option linter.unusedVariables false
set_option maxRecDepth 100000
set_option maxHeartbeats 8000000
namespace Go.Proofs.YtfgkfcfplodaoaaGreatDoor
open Go Go.RowKit
section
abbrev aHd (h:THeader):Arg:=.val true [.sc (.int .i64 h.1),.sc (.int .i64 h.2.1),.sc (.string h.2.2.1),.sc (.string h.2.2.2.1),.sc (.string h.2.2.2.2.1),.sc (.string h.2.2.2.2.2)]
theorem aHd_inj:∀x y:THeader,[aHd x]=[aHd y]→x=y:=by
 rintro⟨a,b,c,d,e,f⟩ ⟨a',b',c',d',e',f'⟩ h
 simpa [aHd]using h
def lastN (h:Int):Int:=if h=1 then 0 else 8
def headOk (h:THeader):Prop:=(1≤h.1∧h.1≤1000000)∧(0≤h.2.1∧h.2.1≤1000000)∧(h.2.2.2.1.size:Int)=8∧(h.2.2.2.2.1.size:Int)=8∧(h.2.2.1.size:Int)=lastN h.1∧(h.2.2.2.2.2.size:Int)≤20
instance (h:THeader):Decidable (headOk h):=by unfold headOk;infer_instance
theorem cases6 (a b c d e f:Prop):(a∧b∧c∧d∧e∧f)∨¬a∨(a∧¬b)∨(a∧b∧¬c)∨(a∧b∧c∧¬d)∨(a∧b∧c∧d∧¬e)∨(a∧b∧c∧d∧e∧¬f):=by
 by_cases ha:a<;>by_cases hb:b<;>by_cases hc:c<;>by_cases hd:d<;>by_cases he:e<;>by_cases hf:f<;>simp_all
theorem cases5 (a b c d e:Prop):(a∧b∧c∧d∧e)∨¬a∨(a∧¬b)∨(a∧b∧¬c)∨(a∧b∧c∧¬d)∨(a∧b∧c∧d∧¬e):=by
 by_cases ha:a<;>by_cases hb:b<;>by_cases hc:c<;>by_cases hd:d<;>by_cases he:e<;>simp_all
noncomputable def mHead:=mdl (fun _:THeader=>True) (fun h=>[aHd h]) (fun h=>rB (decide (headOk h)))
theorem mHead_eq (h:THeader):mHead [aHd h]=some (rB (decide (headOk h))):=mdl_eq aHd_inj h trivial
noncomputable def mTime:=mdl (fun _:Int=>True) (fun n=>[aI n]) (fun n=>rB (decide (0≤n∧n≤1000000)))
theorem mTime_eq (n:Int):mTime [aI n]=some (rB (decide (0≤n∧n≤1000000))):=mdl_eq (by intro a b h;simpa using h) n trivial
noncomputable def mHeight:=mdl (fun _:Int=>True) (fun n=>[aI n]) (fun n=>rB (decide (1≤n∧n≤1000000)))
theorem mHeight_eq (n:Int):mHeight [aI n]=some (rB (decide (1≤n∧n≤1000000))):=mdl_eq (by intro a b h;simpa using h) n trivial
theorem isTime_s:Sound Tryz.prog 125 mTime:=by
 refine Sound.mdl Tryz.func125 rfl Tryz.ntmps125 ?_
 rintro n w-
 refine⟨by simp,?_⟩
 have hΓ:=env_cons (hsO Tryz.func139) within_s env_nil
 have c1:=mWithin_eq n 0 1000000
 refine zJ ?_
 refine At.retA (by rw [Tryz.results125]) (he:=rfl)
theorem isHeight_s:Sound Tryz.prog 213 mHeight:=by
 refine Sound.mdl Tryz.func213 rfl Tryz.ntmps213 ?_
 rintro n w-
 refine⟨by simp,?_⟩
 have hΓ:=env_cons (hsO Tryz.func139) within_s env_nil
 have c1:=mWithin_eq n 1 1000000
 refine zJ ?_
 refine At.retA (by rw [Tryz.results213]) (he:=rfl)
theorem l10Time_s:Sound Tryz.prog 74 mTime:=by
 refine Sound.mdl Tryz.func74 rfl Tryz.ntmps74 ?_
 rintro n w-
 refine⟨by simp,?_⟩
 have hΓ:=env_cons (hsO Tryz.func39) l1In_s env_nil
 have c1:=mIn_eq n 0 1000000
 refine zJ ?_
 refine At.retA (by rw [Tryz.results74]) (he:=rfl)
end
section
def fixB:Nat→Nat→List Nat
 |0,_=>[]
 |k+1,n=>(n/256^k%256)::fixB k n
theorem fixB_len:∀k n,(fixB k n).length=k
 |0,_=>rfl
 |k+1,n=>by simp [fixB,fixB_len k n]
theorem fixB_get (n:Nat):∀k i,i<k→(fixB k n)[i]?=some (n/256^(k-1-i)%256)
 |0,i,h=>by omega
 |k+1,0,_=>by simp [fixB]
 |k+1,i+1,h=>by
  have:=fixB_get n k i (by omega)
  simp only [fixB,List.getElem?_cons_succ,this]
  congr 4
  omega
theorem bsS_app (a b:List Nat):bsS a++bsS b=bsS (a++b):=by
 unfold bsS
 apply ByteArray.ext
 simp
theorem fixB_top {n:Nat}(h:n<72057594037927936):fixB 8 n=0::fixB 7 n:=by
 show(n/256^7%256)::fixB 7 n=_
 have:n/256^7=0:=Nat.div_eq_of_lt (by omega)
 rw [this]
def zPd (n:Nat):Nat:=(64-(n+9)%64)%64
def padZ (i:Nat):List Nat:=128::List.replicate i 0
theorem padZ_len (i:Nat):(padZ i).length=i+1:=by simp [padZ]
theorem padZ_succ (i:Nat):padZ i++[0]=padZ (i+1):=by
 unfold padZ
 rw [List.replicate_succ',List.cons_append]
def padS (s:ByteArray):ByteArray:=s++bsS (padZ (zPd s.size)++fixB 8 (8*s.size))
theorem padS_size (s:ByteArray):(padS s).size=s.size+9+zPd s.size:=by
 unfold padS
 rw [ByteArray.size_append,bsS_size,List.length_append,padZ_len,fixB_len]
 omega
theorem padS_64 (s:ByteArray):∃q,(padS s).size=64*q∧q≤s.size+2:=by
 refine⟨(padS s).size/64,?_,?_⟩
 ·rw [padS_size];unfold zPd;omega
 ·rw [padS_size];unfold zPd;omega
theorem padS_impl {s:ByteArray}(h:s.size≤16777216):s++(⟨#[128]⟩:ByteArray)++bsS (List.replicate (zPd s.size+1) 0)++bsS (fixB 7 (8*s.size))=padS s:=by
 have e:(⟨#[128]⟩:ByteArray)=bsS [128]:=rfl
 rw [e,ByteArray.append_assoc,ByteArray.append_assoc,bsS_app,bsS_app]
 unfold padS
 rw [fixB_top (by omega)]
 congr 2
 unfold padZ
 rw [List.replicate_succ']
 simp
theorem rowsF_repU (n x:Nat):rowsF cU8 (List.replicate n x)=List.replicate n [Leaf.sc (.int .u8 (x:Int))]:=List.map_replicate
def H0:W8:=⟨0x6a09e667,0xbb67ae85,0x3c6ef372,0xa54ff53a,0x510e527f,0x9b05688c,0x1f83d9ab,0x5be0cd19⟩
theorem H0_ok:H0.ok:=by unfold W8.ok H0;decide
def foldK (t:ByteArray):Nat→W8
 |0=>H0
 |j+1=>block (foldK t j) (t.extract (64*j) (64*j+64))
theorem foldK_ok (t:ByteArray):∀j,(foldK t j).ok
 |0=>H0_ok
 |j+1=>addW_ok _ _
def outL (v:W8)(k:Nat):List Nat:=(v.lst.take k).flatMap (fixB 4)
theorem outL_succ (v:W8){k:Nat}(hk:k<8):outL v (k+1)=outL v k++fixB 4 (v.lst.getD k 0):=by
 have hl:k<v.lst.length:=hk
 unfold outL
 rw [List.take_succ_eq_append_getElem hl,List.flatMap_append,List.getD_eq_getElem?_getD,gsE hl]
 simp
theorem outL_len (v:W8):∀k,k≤8→(outL v k).length=4*k
 |0,_=>rfl
 |k+1,hk=>by rw [outL_succ v (by omega),List.length_append,outL_len v k (by omega),fixB_len];omega
def shaW8 (s:ByteArray):W8:=foldK (padS s) ((padS s).size/64)
def shaS (s:ByteArray):ByteArray:=bsS (outL (shaW8 s) 8)
theorem shaS_size (s:ByteArray):(shaS s).size=32:=by unfold shaS;rw [bsS_size,outL_len _ _ (Nat.le_refl _)]
noncomputable def mSha:=mdl (fun s:ByteArray=>s.size≤16777216) (fun s=>[aS s]) (fun s=>rS (shaS s))
theorem mSha_eq (s:ByteArray)(h:s.size≤16777216):mSha [aS s]=some (rS (shaS s)):=mdl_eq (by intro a b h;simpa using h) s h
def fixP (w n j:Nat):List Nat:=List.replicate (w-j) 0++fixB j n
theorem fixP_len {w n j:Nat}(h:j≤w):(fixP w n j).length=w:=by simp [fixP,fixB_len];omega
theorem fixP_set {w n j:Nat}(h:j<w):(fixP w n j).set (w-1-j) (n/256^j%256)=fixP w n (j+1):=by
 unfold fixP
 have e:w-j=(w-(j+1))+1:=by omega
 have e2:w-1-j=w-(j+1):=by omega
 rw [e,e2,List.replicate_succ',List.append_assoc,List.set_append_right _ _ (by simp),List.length_replicate,Nat.sub_self]
 rfl
theorem fixP_old {w n j:Nat}(h:j<w):(fixP w n j)[w-1-j]?=some 0:=by
 unfold fixP
 rw [List.getElem?_append_left (by simp;omega),List.getElem?_replicate,if_pos (by omega)]
theorem rowU {l:List Nat}{k v:Nat}(h:l[k]?=some v):(rowsF cU8 l)[k]?=some [.sc (.int .u8 (v:Int))]:=by
 unfold rowsF
 rw [List.getElem?_map,h]
 rfl
noncomputable def mFixed:=mdl (fun x:Nat×Nat=>(x.2=4∨x.2=7)∧x.1<256^x.2) (fun x=>[aI (x.1:Int),aI (x.2:Int)]) (fun x=>rS (bsS (fixB x.2 x.1)))
theorem mFixed4 (n:Nat)(h:n<4294967296):mFixed [aI (n:Int),aI 4]=some (rS (bsS (fixB 4 n))):=mdl_eq (by rintro⟨a,b⟩ ⟨d,e⟩ h;simp at h;simp;omega) (n,4) ⟨.inl rfl,h⟩
theorem mFixed7 (n:Nat)(h:n<72057594037927936):mFixed [aI (n:Int),aI 7]=some (rS (bsS (fixB 7 n))):=mdl_eq (by rintro⟨a,b⟩ ⟨d,e⟩ h;simp at h;simp;omega) (n,7) ⟨.inr rfl,h⟩
theorem and255 {m:Nat}(h:m<9223372036854775808):bits .and .i64 (m:Int) 255=((m%256:Nat):Int):=by
 have:=and_i64 (a:=m) (b:=255) h (by omega)
 rw [show(255:Nat)=2^8-1 from rfl,Nat.and_two_pow_sub_one_eq_mod]at this
 exact this
theorem fixed_s:Sound Tryz.prog 224 mFixed:=by
 refine Sound.mdl Tryz.func224 rfl Tryz.ntmps224 ?_
 rintro⟨n,wd⟩ w ⟨hw,hn⟩
 refine⟨by simp,?_⟩
 dsimp only at hw hn
 have hΓ:=env_cons (hsO Tryz.func139) within_s env_nil
 rcases hw with rfl|rfl
 ·have hn:n<4294967296:=hn
  have c1:mWithin [aI ((4:Nat):Int),aI 1,aI 7]=some (rB (decide ((1:Int)≤((4:Nat):Int)∧((4:Nat):Int)≤7))):=mWithin_eq _ 1 7
  have e84:(8:Int)*4=32:=rfl
  have e32:min 32 IntKind.i64.bits=32:=rfl
  have n4:((4:Nat):Int)=4:=rfl
  have ha:ar .i64 (1*2^32)=some (.int .i64 4294967296):=rfl
  have hz:List.replicate 4 [Leaf.sc (.int .u8 0)]=rowsF cU8 (fixP 4 n 0):=rfl
  rw [n4]at c1
  refine zI ?_
  rw [n4]
  refine zR ?_
  refine W.loopA (fun j=>j≤4) (fun j:Nat=>[.slot 6 (vI (3-(j:Int))),.slot 0 (vI ((n/256^j:Nat):Int)),.slot 5 (one (.all 22)),.blk 22 (.arr .ft 5 1 (rowsF cU8 (fixP 4 n j)))]) (fun j=>4-j) 0 (Nat.zero_le _) (by simp only [Nat.pow_zero,Nat.div_one];exact subP) (h:=?_)
  clear hz c1 e32 ha e84
  rintro j hj
  have hpl:=fixP_len (n:=n) hj
  have hpr:=rowsF_len cU8 (fixP 4 n j)
  by_cases hlt:j<4
  ·have hold:=rowU (fixP_old (n:=n) hlt)
   have hset:(rowsF cU8 (fixP 4 n j)).set (4-1-j) [.sc (.int .u8 ((n/256^j%256:Nat):Int))]=rowsF cU8 (fixP 4 n (j+1)):=by rw [←fixP_set (n:=n) hlt];exact rowsF_set cU8 _ _ _
   have hnx:n/256^j/256=n/256^(j+1):=by rw [Nat.div_div_eq_div_mul,Nat.pow_succ]
   have hm:n/256^j<9223372036854775808:=Nat.lt_of_le_of_lt (Nat.div_le_self _ _) (by omega)
   have ei:((3:Int)-(j:Int)).toNat=4-1-j:=by omega
   generalize n/256^j=m at*
   have t1:=and255 hm
   have hw:=wrap_u8n (n:=m%256) (by omega)
   have m8:min 8 IntKind.i64.bits=8:=rfl
   have t2:(m:Int).fdiv (2^8)=((m/256:Nat):Int):=fdiv_nat m 8
   have t3:(3:Int)-(j:Int)-1=3-((j+1:Nat):Int):=by omega
   refine zR ?_
   exact At.roundA (j+1) (by omega) (by omega)
  ·have hj4:j=4:=by omega
   subst hj4
   have hb:=bytes_rows (fixP 4 n 4)
   refine zR ?_
   refine At.retA (by rw [Tryz.results224]) (he:=rfl)
 ·have hn:n<72057594037927936:=hn
  have c1:mWithin [aI ((7:Nat):Int),aI 1,aI 7]=some (rB (decide ((1:Int)≤((7:Nat):Int)∧((7:Nat):Int)≤7))):=mWithin_eq _ 1 7
  have e84:(8:Int)*7=56:=rfl
  have e32:min 56 IntKind.i64.bits=56:=rfl
  have n4:((7:Nat):Int)=7:=rfl
  have ha:ar .i64 (1*2^56)=some (.int .i64 72057594037927936):=rfl
  have hz:List.replicate 7 [Leaf.sc (.int .u8 0)]=rowsF cU8 (fixP 7 n 0):=rfl
  rw [n4]at c1
  refine zI ?_
  rw [n4]
  refine zR ?_
  refine W.loopA (fun j=>j≤7) (fun j:Nat=>[.slot 6 (vI (6-(j:Int))),.slot 0 (vI ((n/256^j:Nat):Int)),.slot 5 (one (.all 22)),.blk 22 (.arr .ft 5 1 (rowsF cU8 (fixP 7 n j)))]) (fun j=>7-j) 0 (Nat.zero_le _) (by simp only [Nat.pow_zero,Nat.div_one];exact subP) (h:=?_)
  clear hz c1 e32 ha e84
  rintro j hj
  have hpl:=fixP_len (n:=n) hj
  have hpr:=rowsF_len cU8 (fixP 7 n j)
  by_cases hlt:j<7
  ·have hold:=rowU (fixP_old (n:=n) hlt)
   have hset:(rowsF cU8 (fixP 7 n j)).set (7-1-j) [.sc (.int .u8 ((n/256^j%256:Nat):Int))]=rowsF cU8 (fixP 7 n (j+1)):=by rw [←fixP_set (n:=n) hlt];exact rowsF_set cU8 _ _ _
   have hnx:n/256^j/256=n/256^(j+1):=by rw [Nat.div_div_eq_div_mul,Nat.pow_succ]
   have hm:n/256^j<9223372036854775808:=Nat.lt_of_le_of_lt (Nat.div_le_self _ _) (by omega)
   have ei:((6:Int)-(j:Int)).toNat=7-1-j:=by omega
   generalize n/256^j=m at*
   have t1:=and255 hm
   have hw:=wrap_u8n (n:=m%256) (by omega)
   have m8:min 8 IntKind.i64.bits=8:=rfl
   have t2:(m:Int).fdiv (2^8)=((m/256:Nat):Int):=fdiv_nat m 8
   have t3:(6:Int)-(j:Int)-1=6-((j+1:Nat):Int):=by omega
   refine zR ?_
   exact At.roundA (j+1) (by omega) (by omega)
  ·have hj4:j=7:=by omega
   subst hj4
   have hb:=bytes_rows (fixP 7 n 7)
   refine zR ?_
   refine At.retA (by rw [Tryz.results224]) (he:=rfl)
end
section
theorem headS_s:Sound Tryz.prog 50 mHead:=by
 refine Sound.mdl Tryz.func50 rfl Tryz.ntmps50 ?_
 rintro⟨h,t,la,va,ne,da⟩ w-
 refine⟨by simp,?_⟩
 have hΓ:=env_cons (hsO Tryz.func39) l1In_s env_nil
 have c1:=mIn_eq h 1 1000000
 have c2:=mIn_eq t 0 1000000
 refine zI ?_
 by_cases e1:h=1
 ·subst e1
  rcases cases5 ((0:Int)≤t∧t≤1000000) ((va.size:Int)=8) ((ne.size:Int)=8) ((la.size:Int)=0) ((da.size:Int)≤20)with h|h|h|h|h|h
  all_goals
   refine zR ?_
   refine At.retA (by rw [Tryz.results50]) (he:=?_)
   first
    |(simp [headOk,lastN,h];done)
    |(simp [headOk,lastN,h];intro e;subst e;simp at h)
 ·rcases cases6 ((1:Int)≤h∧h≤1000000) ((0:Int)≤t∧t≤1000000) ((va.size:Int)=8) ((ne.size:Int)=8) ((la.size:Int)=8) ((da.size:Int)≤20)with h|h|h|h|h|h|h
  all_goals
   refine zR ?_
   refine At.retA (by rw [Tryz.results50]) (he:=?_)
   simp [headOk,lastN,h,e1]
theorem headI_s:Sound Tryz.prog 165 mHead:=by
 refine Sound.mdl Tryz.func165 rfl Tryz.ntmps165 ?_
 rintro⟨h,t,la,va,ne,da⟩ w-
 refine⟨by simp,?_⟩
 have hΓ:=env_cons (hsO Tryz.func213) isHeight_s (env_cons (hsO Tryz.func125) isTime_s env_nil)
 have c1:=mHeight_eq h
 have c2:=mTime_eq t
 refine zI ?_
 by_cases e1:h=1
 ·subst e1
  rcases cases5 ((0:Int)≤t∧t≤1000000) ((va.size:Int)=8) ((ne.size:Int)=8) ((la.size:Int)=0) ((da.size:Int)≤20)with h|h|h|h|h|h
  all_goals
   refine zR ?_
   refine At.retA (by rw [Tryz.results165]) (he:=?_)
   first
    |(simp [headOk,lastN,h];done)
    |(simp [headOk,lastN,h];intro e;subst e;simp at h)
 ·rcases cases6 ((1:Int)≤h∧h≤1000000) ((0:Int)≤t∧t≤1000000) ((va.size:Int)=8) ((ne.size:Int)=8) ((la.size:Int)=8) ((da.size:Int)≤20)with h|h|h|h|h|h|h
  all_goals
   refine zR ?_
   refine At.retA (by rw [Tryz.results165]) (he:=?_)
   simp [headOk,lastN,h,e1]
end
section
abbrev TPeer:=Int×Bool×Int×Int
def cPeer (p:TPeer):List Value:=[.int .i64 p.1,.bool p.2.1,.int .i64 p.2.2.1,.int .i64 p.2.2.2]
@[simp] theorem rowsF_Peer {a b:List TPeer}:rowsF cPeer a=rowsF cPeer b↔a=b:=rowsF_iff fun x y h=>by simpa [cPeer,Prod.ext_iff]using h
abbrev TTab:=List TPeer×Int
abbrev aTab (t:TTab):Arg:=.val true [.sl (rowsF cPeer t.1),.sc (.int .i64 t.2)]
abbrev rTab (t:TTab):List RL:=[.own .ft 209 4 (rowsF cPeer t.1),.ro (.sc (.int .i64 t.2))]
abbrev bxTab (t:TTab):Blk:=.box [.sl (rowsF cPeer t.1),.sc (.int .i64 t.2)]
theorem aTab_inj {a b:TTab}(h:aTab a=aTab b):a=b:=by
 obtain⟨a1,a2⟩:=a
 obtain⟨b1,b2⟩:=b
 simpa using h
theorem cPeer_row (l:List TPeer)(k:Nat)(h:k<l.length):(rowsF cPeer l)[k]?=some [.sc (.int .i64 l[k].1),.sc (.bool l[k].2.1),.sc (.int .i64 l[k].2.2.1),.sc (.int .i64 l[k].2.2.2)]:=rowsF_get cPeer l k h
theorem cPeer_app (l:List TPeer)(a:Int)(b:Bool)(c d:Int):rowsF cPeer l++[[Leaf.sc (.int .i64 a),.sc (.bool b),.sc (.int .i64 c),.sc (.int .i64 d)]]=rowsF cPeer (l++[(a,b,c,d)]):=by rw [←rowsF_app];rfl
def atP (l:List TPeer)(id:Int):Int:=idxP (fun p=>decide (p.1=id)) l
theorem idxP_cases' {α:Type}(p:α→Bool)(l:List α):(∃k,∃hk:k<l.length,idxP p l=(k:Int)∧p l[k]=true∧∀j,(hj:j<k)→p l[j]=false)∨(idxP p l= -1∧∀j,(hj:j<l.length)→p l[j]=false):=by
 unfold idxP
 by_cases h:l.findIdx p<l.length
 ·left
  rw [if_pos h]
  exact⟨_,h,rfl,List.findIdx_getElem (w:=h),fun j hj=>by simpa using List.not_of_lt_findIdx hj⟩
 ·right
  rw [if_neg h]
  refine⟨rfl,fun j hj=>?_⟩
  cases hp:p l[j]with
  |false=>rfl
  |true=>exact absurd (List.findIdx_lt_length_of_exists ⟨l[j],List.getElem_mem hj,hp⟩) h
theorem atP_cases (l:List TPeer)(id:Int):(∃k,∃hk:k<l.length,atP l id=(k:Int)∧l[k].1=id)∨atP l id= -1:=by
 rcases idxP_cases' (fun p:TPeer=>decide (p.1=id)) l with⟨k,hk,h1,h2,_⟩|⟨h1,_⟩
 ·exact .inl ⟨k,hk,h1,of_decide_eq_true h2⟩
 ·exact .inr h1
theorem atP_in (l:List TPeer)(id:Int)(h:l.length≤8796093022207): -1≤atP l id∧atP l id≤8796093022207:=by
 rcases atP_cases l id with⟨k,hk,h1,_⟩|h1
 ·rw [h1];omega
 ·rw [h1];omega
def peerD (l:List TPeer)(j:Nat):TPeer:=l.getD j (0,false,0,0)
theorem peerD_get {l:List TPeer}{j:Nat}(h:j<l.length):peerD l j=l[j]:=by
 unfold peerD
 rw [List.getD_eq_getElem?_getD,gsE h]
 rfl
theorem peerD_row {l:List TPeer}{k:Nat}(h:k<l.length):(rowsF cPeer l)[k]?=some [.sc (.int .i64 (peerD l k).1),.sc (.bool (peerD l k).2.1),.sc (.int .i64 (peerD l k).2.2.1),.sc (.int .i64 (peerD l k).2.2.2)]:=by
 rw [cPeer_row l k h,peerD_get h]
def peerOk (p:TPeer):Prop:=(1≤p.1∧p.1≤99)∧(0≤p.2.2.1∧p.2.2.1≤1000320)∧(0≤p.2.2.2∧p.2.2.2≤20)
def peerAt (l:List TPeer)(j:Nat):Prop:=peerOk (peerD l j)∧atP l (peerD l j).1=(j:Int)
def tabOk (t:TTab):Prop:=(t.1.length≤6∧0≤t.2∧t.2≤1000000)∧∀j,j<t.1.length→peerAt t.1 j
open Classical in
noncomputable instance (t:TTab):Decidable (tabOk t):=Classical.propDecidable _
theorem peer_next {l:List TPeer}{k:Nat}(hI:∀j,j<k→peerAt l j)(h:peerAt l k):∀j,j<k+1→peerAt l j:=fun j hj=>by
 rcases Nat.lt_or_ge j k with h1|h1
 ·exact hI j h1
 ·have:j=k:=by omega
  subst this
  exact h
abbrev okTab (t:TTab):Prop:=t.1.length≤1048576
noncomputable def mCopyT:=mdl okTab (fun t=>[aTab t]) (fun t=>.comp true (rTab t))
theorem mCopyT_eq (t:TTab)(h:okTab t):mCopyT [aTab t]=some (.comp true (rTab t)):=mdl_eq (fun a b h=>aTab_inj (by simpa using h)) t h
theorem copyTI_s:Sound Tryz.prog 190 mCopyT:=by
 refine Sound.mdl Tryz.func190 rfl Tryz.ntmps190 ?_
 rintro⟨l,n⟩ w hl
 refine⟨by simp,?_⟩
 replace hl:l.length≤1048576:=hl
 have hΓ:=eN
 have hw:wid 4 (rowsF cPeer l):=rowsF_wid (f:=cPeer) (fun _=>rfl) l
 have hlen:=rowsF_len cPeer l
 have hnil:([]:List (List Leaf))++rowsF cPeer l=rowsF cPeer l:=rfl
 refine zJ ?_
 refine W.subA [.slot 2 (one (.ptr 2 0)),.blk 2 (.box [.nil,.sc (.int .i64 0)]),.slot 1 (one (.ptr 1 0)),.blk 1 (bxTab (l,n))] (h:=?_)
 refine AllGo.start hΓ (h:=?_)
 refine AllGo.add 0 0 (h:=?_)
 refine AllGo.add 1 1 (h:=?_)
 refine AllGo.add 3 2 (h:=?_)
 refine AllGo.add 0 3 (h:=?_)
 refine AllGo.add 1 3 (h:=?_)
 refine AllGo.add 3 3 (h:=?_)
 refine AllGo.add 7 3 (h:=?_)
 refine AllGo.add 8 4 (h:=?_)
 refine AllGo.add 9 4 (h:=?_)
 refine AllGo.add 11 4 (h:=?_)
 refine AllGo.add 15 4 (h:=?_)
 refine AllGo.add 31 5 (h:=?_)
 refine AllGo.add 63 6 (h:=?_)
 refine AllGo.done hΓ [(0,0),(0,3),(1,1),(1,3),(3,2),(3,3),(7,3),(8,0),(8,4),(9,1),(9,4),(11,2),(11,4),(15,4),(24,0),(25,1),(27,2),(31,5),(63,6)] (hp:=?hp1) (hD:=?hD1) (h0:=?h01) (hS:=?hS1) (stE:=?stE1) (hE:=?hE1) (hT:=?hT1)
 case hp1=>kernel_rfl
 case hD1=>kernel_rfl
 case h01=>rfl
 case hS1=>
  repeat(refine List.forall_mem_cons.2 ⟨StepAt.mk' (ho:=by rfl) (hg:=by rfl) (hm:=by simp only [tabJ,eq_self,Nat.reduceEqDiff,reduceIte]<;>rfl) (hn:=by simp only [tabJ,eq_self,Nat.reduceEqDiff,Nat.reduceAdd,Nat.reducePow,reduceIte]<;>rfl) (hs:=by exact evsP) (hb:=by simp (disch:=omega) only [Sub,SubL,getS_hit,getS_miss,getS_blk,getS_kill,getS_nil,getB_nil,getB_slot,getB_hit,getB_miss,getB_kill0,getB_kill1,lsNms,vsNms,PL.nms,PV.nms,Blk.nms,bound,PV.kill,PL.kill,PL.names,List.append_nil,List.nil_append,List.cons_append,and_true,true_and,and_self, *]<;>(repeat' apply And.intro)<;>rfl),?_⟩)
  exact List.forall_mem_nil _
 case hE1=>simp only [tabJ,eq_self,Nat.reduceEqDiff,List.length_cons,List.length_nil,Nat.reduceAdd,Nat.reducePow,Nat.reduceSub,reduceIte]<;>rfl
 with_reducible apply WL.nil
 refine zR ?_
 refine At.retA (by rw [Tryz.results190]) (he:=rfl)
theorem copyTS_s:Sound Tryz.prog 208 mCopyT:=by
 refine Sound.mdl Tryz.func208 rfl Tryz.ntmps208 ?_
 rintro⟨l,n⟩ w hl
 refine⟨by simp,?_⟩
 replace hl:l.length≤1048576:=hl
 have hΓ:=eN
 have hw:wid 4 (rowsF cPeer l):=rowsF_wid (f:=cPeer) (fun _=>rfl) l
 have hlen:=rowsF_len cPeer l
 have hnil:([]:List (List Leaf))++rowsF cPeer l=rowsF cPeer l:=rfl
 refine zJ ?_
 refine At.retA (by rw [Tryz.results208]) (he:=rfl)
abbrev aPeer (p:TPeer):Arg:=.val true [.sc (.int .i64 p.1),.sc (.bool p.2.1),.sc (.int .i64 p.2.2.1),.sc (.int .i64 p.2.2.2)]
noncomputable def mAtP:=mdl (fun x:TTab×Int=>x.1.1.length≤8796093022207) (fun x=>[aTab x.1,aI x.2]) (fun x=>rI (atP x.1.1 x.2))
theorem mAtP_eq (t:TTab)(id:Int)(h:t.1.length≤8796093022207):mAtP [aTab t,aI id]=some (rI (atP t.1 id)):=mdl_eq (by
 rintro⟨⟨a,b⟩,c⟩ ⟨⟨d,e⟩,f⟩ h
 simp at h
 simp [h]) (t,id) h
noncomputable def mIdP:=mdl (fun _:TPeer×Int=>True) (fun x=>[aPeer x.1,.row [.sc (.int .i64 x.2)] 0]) (fun x=>rB (decide (x.1.1=x.2)))
theorem mIdP_eq (p:TPeer)(id:Int):mIdP [aPeer p,.row [.sc (.int .i64 id)] 0]=some (rB (decide (p.1=id))):=mdl_eq (by
 rintro⟨⟨a,b,c,d⟩,e⟩ ⟨⟨a',b',c',d'⟩,e'⟩ h
 simp at h
 simp [h]) (p,id) trivial
theorem idP_s:Sound Tryz.prog 234 mIdP:=by
 refine Sound.mdl Tryz.func234 rfl Tryz.ntmps234 ?_
 rintro⟨⟨a,b,c,d⟩,e⟩ w-
 refine⟨by simp,?_⟩
 have hΓ:=eN
 refine zJ ?_
 refine At.retA (by rw [Tryz.results234]) (he:=rfl)
noncomputable def mIdxP (f:FuncId)(boxes:List (List Leaf))(p:TPeer→Bool):=mdl (fun l:List TPeer=>l.length≤8796093022207) (fun l=>[aL cPeer l,.clo f boxes]) (fun l=>rI (idxP p l))
theorem mIdxP_eq (f:FuncId)(boxes:List (List Leaf))(p:TPeer→Bool)(l:List TPeer)(h:l.length≤8796093022207):mIdxP f boxes p [aL cPeer l,.clo f boxes]=some (rI (idxP p l)):=mdl_eq (by intro a b h;simpa using h) l h
theorem idxP_s {f:FuncId}{boxes:List (List Leaf)}{p:TPeer→Bool}{mf:List Arg→Option Res}(hf:Has Tryz.prog f)(hs:Sound Tryz.prog f mf)(hm:∀x,mf ([aPeer x]++boxes.map fun c=>.row c 0)=some (rB (p x))):Sound Tryz.prog 191 (mIdxP f boxes p):=by
 refine Sound.mdl Tryz.func191 rfl Tryz.ntmps191 ?_
 rintro l w hl
 refine⟨by simp,?_⟩
 replace hl:l.length≤8796093022207:=hl
 have hΓ:GSound Tryz.prog (look [(f,mf)]):=env_cons hf hs env_nil
 clear hs hf
 have hlen:=rowsF_len cPeer l
 refine zJ ?_
 refine W.loopA (fun k=>k≤l.length∧∀j,(h:j<k)→∀hj:j<l.length,p l[j]=false) (fun k:Nat=>[.slot 8 (vI k),.slot 7 (vI l.length),.slot 0 (vL cPeer l),.slot 1 (one (.clo f boxes))]) (fun k=>l.length-k) 0 ⟨Nat.zero_le _,fun j hj=>by omega⟩ (h:=?_)
 rintro k ⟨hk,hn⟩
 by_cases hlt:k<l.length
 ·have hrow:=cPeer_row l k hlt
  have hm:=hm l[k]
  simp only [List.cons_append,List.nil_append]at hm
  cases hp:p l[k]with
  |true=>
   have hv:=idxP_at (p:=p) hlt (fun j hj=>hn j hj _) hp
   rw [hp]at hm
   clear hn hp
   generalize l[k]=x at hrow hm
   obtain⟨x1,x2,x3,x4⟩:=x
   dsimp only [aPeer]at hm hrow
   refine zR ?_
   refine At.retA (by rw [Tryz.results191]) (he:=?_)
   rw [hv]
  |false=>
   have hnx:∀j,(h:j<k+1)→∀hj:j<l.length,p l[j]=false:=fun j h hj=>by
    rcases Nat.lt_or_ge j k with h1|h1
    ·exact hn j h1 hj
    ·have:j=k:=by omega
     subst this
     exact hp
   rw [hp]at hm
   clear hn hp
   generalize l[k]=x at hrow hm
   obtain⟨x1,x2,x3,x4⟩:=x
   dsimp only [aPeer]at hm hrow
   refine zR ?_
   exact At.roundA (k+1) ⟨by omega,hnx⟩ (by omega)
 ·have hv:=idxP_no (p:=p) (l:=l) (fun j hj=>hn j (by omega) hj)
  clear hn
  refine zR ?_
  refine At.retA (by rw [Tryz.results191]) (he:=?_)
  rw [hv]
theorem atPI_s:Sound Tryz.prog 193 mAtP:=by
 refine Sound.mdl Tryz.func193 rfl Tryz.ntmps193 ?_
 rintro⟨⟨l,n⟩,id⟩ w hl
 refine⟨by simp,?_⟩
 replace hl:l.length≤8796093022207:=hl
 have hΓ:GSound Tryz.prog (look [(191,mIdxP 234 [[.sc (.int .i64 id)]] (fun p=>decide (p.1=id)))]):=env_cons (hsO Tryz.func191) (idxP_s (hsO Tryz.func234) idP_s (fun x=>mIdP_eq x id)) env_nil
 have c:=mIdxP_eq 234 [[.sc (.int .i64 id)]] (fun p=>decide (p.1=id)) l hl
 refine zJ ?_
 refine At.retA (by rw [Tryz.results193]) (he:=rfl)
theorem atPS_s:Sound Tryz.prog 209 mAtP:=by
 refine Sound.mdl Tryz.func209 rfl Tryz.ntmps209 ?_
 rintro⟨⟨l,n⟩,id⟩ w hl
 refine⟨by simp,?_⟩
 replace hl:l.length≤8796093022207:=hl
 have hΓ:=eN
 have hlen:=rowsF_len cPeer l
 refine zJ ?_
 refine W.loopA (fun k=>k≤l.length∧∀j,(h:j<k)→∀hj:j<l.length,decide (l[j].1=id)=false) (fun k:Nat=>[.slot 5 (vI k),.slot 1 (vI id),.slot 2 (one (.ptr 2 0)),.blk 2 (bxTab (l,n))]) (fun k=>l.length-k) 0 ⟨Nat.zero_le _,fun j hj=>by omega⟩ (h:=?_)
 rintro k ⟨hk,hn⟩
 by_cases hlt:k<l.length
 ·have hrow:=cPeer_row l k hlt
  by_cases hp:l[k].1=id
  ·have hv:atP l id=(k:Int):=idxP_at (p:=fun p:TPeer=>decide (p.1=id)) hlt (fun j hj=>hn j hj _) (decide_eq_true hp)
   rw [hp]at hrow
   clear hn hp
   have hv:=Lib.hid hv
   refine zR ?_
   refine At.retA (by rw [Tryz.results209]) (he:=?_)
   rw [hv.out]
  ·have hnx:∀j,(h:j<k+1)→∀hj:j<l.length,decide (l[j].1=id)=false:=fun j h hj=>by
    rcases Nat.lt_or_ge j k with h1|h1
    ·exact hn j h1 hj
    ·have:j=k:=by omega
     subst this
     exact decide_eq_false hp
   clear hn
   generalize l[k]=x at hrow hp
   obtain⟨x1,x2,x3,x4⟩:=x
   dsimp only at hrow hp
   have hnx:=Lib.hid hnx
   refine zR ?_
   exact At.roundA (k+1) ⟨by omega,hnx.out⟩ (by omega)
 ·have hv:atP l id= -1:=idxP_no (p:=fun p:TPeer=>decide (p.1=id)) (l:=l) (fun j hj=>hn j (by omega) hj)
  clear hn
  have hv:=Lib.hid hv
  refine zR ?_
  refine At.retA (by rw [Tryz.results209]) (he:=?_)
  rw [hv.out]
end
section
theorem val_row {l:List TVal}{k:Nat}(h:k<l.length):(rowsF cVal l)[k]?=some [.sc (.int .i64 l[k].1),.sc (.int .i64 l[k].2)]:=rowsF_get cVal l k h
end
section
def enoughB (l:List TVal)(ids:List Int):Bool:=decide (valsOk l)&&decide (2*powerOf l<3*powSum (fun x=>decide (x∈ids)) l)
theorem enough1_s:Sound Tryz.prog 240 mIn2:=by
 refine Sound.mdl Tryz.func240 rfl Tryz.ntmps240 ?_
 rintro⟨ids,x⟩ w hi
 refine⟨by simp,?_⟩
 replace hi:ids.length≤8796093022207:=hi
 have hΓ:=env_cons (hsO Tryz.func171) cont_s env_nil
 have c1:=mCont_eq ids x hi
 refine zJ ?_
 refine At.retA (by rw [Tryz.results240]) (he:=rfl)
abbrev okEnough (x:List TVal×List Int):Prop:=x.1.length≤8796093022207∧x.2.length≤8796093022207
noncomputable def mEnough:=mdl okEnough (fun x=>[aL cVal x.1,aL cInt x.2]) (fun x=>rB (enoughB x.1 x.2))
theorem mEnough_eq (l:List TVal)(ids:List Int)(h1:l.length≤8796093022207)(h2:ids.length≤8796093022207):mEnough [aL cVal l,aL cInt ids]=some (rB (enoughB l ids)):=mdl_eq (by rintro⟨a,b⟩ ⟨d,e⟩ h;simpa using h) (l,ids) ⟨h1,h2⟩
theorem enoughI_s:Sound Tryz.prog 215 mEnough:=by
 refine Sound.mdl Tryz.func215 rfl Tryz.ntmps215 ?_
 rintro⟨l,ids⟩ w ⟨hl,hi⟩
 refine⟨by simp,?_⟩
 replace hl:l.length≤8796093022207:=hl
 replace hi:ids.length≤8796093022207:=hi
 have hΓ:GSound Tryz.prog (look [(168,mVals),(172,mPower),(169,mPow 240 [[.sl (rowsF cInt ids)]] fun x=>decide (x∈ids))]):=env_cons (hsO Tryz.func168) valsI_s (env_cons (hsO Tryz.func172) powerI_s (env_cons (hsO Tryz.func169) (pow_s (hsO Tryz.func240) enough1_s (mIn2_eq ids hi)) env_nil))
 have c1:=mVals_eq l hl
 have c3:=mPower_eq l hl
 obtain⟨p1,p2⟩:=powerOf_in l
 refine zI ?_
 by_cases hv:valsOk l
 ·have c2:=mPow_eq 240 [[.sl (rowsF cInt ids)]] (fun x=>decide (x∈ids)) l hv
  obtain⟨q1,q2⟩:=powSum_in (fun x=>decide (x∈ids)) hv
  refine zR ?_
  refine At.retA (by rw [Tryz.results215]) (he:=?_)
  simp [enoughB,hv]
 ·refine zR ?_
  refine At.retA (by rw [Tryz.results215]) (he:=?_)
  simp [enoughB,hv]
theorem enoughS_s:Sound Tryz.prog 176 mEnough:=by
 refine Sound.mdl Tryz.func176 rfl Tryz.ntmps176 ?_
 rintro⟨l,ids⟩ w ⟨hl,hi⟩
 refine⟨by simp,?_⟩
 replace hl:l.length≤8796093022207:=hl
 replace hi:ids.length≤8796093022207:=hi
 have hΓ:=env_cons (hsO Tryz.func75) valsS_s (env_cons (hsO Tryz.func77) powerS_s (env_cons (hsO Tryz.func76) has_s env_nil))
 have c1:=mVals_eq l hl
 have c2:=fun x=>mHas_eq ids x hi
 have c3:=mPower_eq l hl
 obtain⟨p1,p2⟩:=powerOf_in l
 refine zI ?_
 by_cases hv:valsOk l
 ·have hz:=sumK_zero (powC fun x=>decide (x∈ids)) l
  refine zR ?_
  refine W.loopA (fun k=>k≤l.length) (fun k:Nat=>[.slot 6 (vI k),.slot 5 (vI (sumK (powC fun x=>decide (x∈ids)) l k)),.slot 0 (vL cVal l),.slot 1 (vL cInt ids)]) (fun k=>l.length-k) 0 (Nat.zero_le _) (h:=?_)
  rintro k hk
  obtain⟨s0,s1⟩:=pow_in (p:=fun x=>decide (x∈ids)) hv k hk
  have h7:=hv.1.2
  by_cases hlt:k<l.length
  ·have hrow:=row_at cVal l hlt
   simp only [cVal,List.map_cons,List.map_nil]at hrow
   obtain⟨b1,b2,b3,b4⟩:=vals_at hv hlt
   by_cases hm:l[k].1∈ids
   ·have hs:sumK (powC fun x=>decide (x∈ids)) l (k+1)=sumK (powC fun x=>decide (x∈ids)) l k+l[k].2:=by rw [sumK_succ _ hlt];simp [powC,hm]
    refine zR ?_
    exact At.roundA (k+1) (by omega) (by omega)
   ·have hs:sumK (powC fun x=>decide (x∈ids)) l (k+1)=sumK (powC fun x=>decide (x∈ids)) l k:=by rw [sumK_succ _ hlt];simp [powC,hm]
    refine zR ?_
    exact At.roundA (k+1) (by omega) (by omega)
  ·refine zR ?_
   refine At.retA (by rw [Tryz.results176]) (he:=?_)
   rw [sumK_all _ (by omega)]
   simp only [enoughB,hv,decide_true,Bool.true_and,powSum]
   first|rfl|congr
 ·refine zR ?_
  refine W.loopA (fun _=>True) (fun _:Nat=>[.slot 6 (vI 0),.slot 5 (vI 0),.slot 0 (vL cVal l),.slot 1 (vL cInt ids)]) (fun _=>0) 0 trivial (h:=?_)
  rintro k-
  by_cases hlt:0<l.length
  ·refine zR ?_
   refine At.retA (by rw [Tryz.results176]) (he:=?_)
   simp [enoughB,hv]
  ·refine zR ?_
   refine At.retA (by rw [Tryz.results176]) (he:=?_)
   simp [enoughB,hv]
end
section
noncomputable def nth (l:List Nat):Nat→Nat:=List.rec (motive:=fun _=>Nat→Nat) (fun _=>0) (fun x _ ih i=>Nat.rec x (fun j _=>ih j) i) l
theorem nth_eq:∀(l:List Nat) (i:Nat),nth l i=l.getD i 0
 |[],i=>by simp [nth]
 |x::l,0=>rfl
 |x::l,i+1=>by
  show nth l i=_
  rw [nth_eq l i]
  simp
theorem byte_bsS {l:List Nat}(h:∀x∈l,x<256)(i:Nat):byteN (bsS l) i=nth l i:=by
 rw [nth_eq]
 unfold byteN byteU bsS
 show((l.map UInt8.ofNat).toArray.toList.getD i 0).toNat=_
 rw [List.getD_eq_getElem?_getD,List.getD_eq_getElem?_getD,List.getElem?_map]
 cases hg:l[i]? with
 |none=>rfl
 |some x=>
  have:=h x (List.mem_of_getElem? hg)
  show(UInt8.ofNat x).toNat=x
  exact Nat.mod_eq_of_lt this
end
end Go.Proofs.YtfgkfcfplodaoaaGreatDoor
