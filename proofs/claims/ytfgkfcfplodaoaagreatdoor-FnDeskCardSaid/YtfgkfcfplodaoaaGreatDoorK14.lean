/-
  Put together out of 3 texts.
-/
import Derived.Test.YtfgkfcfplodaoaaGreatDoorK13
import Derived.Test.YtfgkfcfplodaoaaGreatDoorK12
set_option linter.unusedSimpArgs false
set_option linter.unusedVariables false
set_option maxRecDepth 100000
set_option maxHeartbeats 16000000
namespace Go.Proofs.YtfgkfcfplodaoaaGreatDoor
open Go Go.RowKit
section
theorem cut_end (s:ByteArray)(p:Nat)(hp:p≤s.size):(p<s.size→¬s.extract p s.size=ByteArray.empty)∧(¬p<s.size→s.extract p s.size=ByteArray.empty):=by
 have hz:(s.extract p s.size).size=s.size-p:=by rw [ByteArray.size_extract];omega
 have h0:ByteArray.empty.size=0:=rfl
 refine⟨fun h e=>?_,fun h=>?_⟩
 ·rw [e]at hz
  omega
 ·have hz0:(s.extract p s.size).data.size=0:=by
   have e:(s.extract p s.size).data.size=(s.extract p s.size).size:=rfl
   omega
  have:=Array.eq_empty_of_size_eq_zero hz0
  generalize s.extract p s.size=t at*
  cases t
  simp only at this
  subst this
  rfl
theorem linesI_spK (s:ByteArray):linesI s=if(spK s 10 s.size).2<s.size then(spK s 10 s.size).1++[s.extract (spK s 10 s.size).2 s.size]else(spK s 10 s.size).1:=by
 have hs:splitS s 10=(spK s 10 s.size).1++[s.extract (spK s 10 s.size).2 s.size]:=rfl
 obtain⟨h1,h2⟩:=cut_end s (spK s 10 s.size).2 (spK_le s 10 s.size).1
 unfold linesI
 rw [hs]
 generalize s.extract (spK s 10 s.size).2 s.size=t at*
 generalize (spK s 10 s.size).1=A at*
 have hg:(A++[t]).getD ((A++[t]).length-1) ByteArray.empty=t:=by simp
 have ht:(A++[t]).take ((A++[t]).length-1)=A:=by simp
 rw [hg,ht]
 split
 ·rename_i h
  rw [if_neg (fun q=>h1 q h)]
 ·rename_i h
  by_cases q:(spK s 10 s.size).2<s.size
  ·rw [if_pos q]
  ·exact absurd (h2 q) h
theorem byteN_cut {s:ByteArray}{p i:Nat}(hp:p≤s.size)(hi:i<p):byteN (s.extract 0 p) i=byteN s i:=by
 unfold byteN byteU
 rw [ByteArray.data_extract,Array.toList_extract]
 simp only [List.extract_eq_take_drop,List.drop_zero,Nat.sub_zero,List.getD_eq_getElem?_getD]
 rw [List.getElem?_take_of_lt hi]
theorem cut_cut {s:ByteArray}{p a b:Nat}(hb:b≤p):(s.extract 0 p).extract a b=s.extract a b:=by
 rw [ByteArray.extract_extract]
 simp [Nat.min_eq_left hb]
theorem spK_cut {s:ByteArray}(c:Nat){p:Nat}(hp:p≤s.size):∀j,j≤p→spK (s.extract 0 p) c j=spK s c j
 |0,_=>rfl
 |j+1,h=>by
  rw [spK_succ,spK_succ,spK_cut c hp j (by omega)]
  unfold spF
  rw [byteN_cut hp (by omega),cut_cut (by omega)]
theorem spK_pre (s:ByteArray)(c p:Nat):∀n,∃t,(spK s c (p+n)).1=(spK s c p).1++t
 |0=>⟨[],by simp⟩
 |n+1=>by
  obtain⟨t,e⟩:=spK_pre s c p n
  rw [←Nat.add_assoc,spK_succ]
  unfold spF
  split
  ·exact⟨t++[s.extract (spK s c (p+n)).2 (p+n)],by dsimp only;rw [e,List.append_assoc]⟩
  ·exact⟨t,e⟩
def cutI (s:ByteArray)(k:Nat):Nat→Nat
 |0=>0
 |i+1=>if byteN s i=10∧(spK s 10 i).1.length+1=k then i+1 else cutI s k i
theorem cutI_le (s:ByteArray)(k:Nat):∀i,cutI s k i≤i
 |0=>Nat.le_refl _
 |i+1=>by
  have:=cutI_le s k i
  unfold cutI
  split<;>omega
theorem cutI_at (s:ByteArray)(k:Nat):∀i,(spK s 10 (cutI s k i)).2=cutI s k i
 |0=>rfl
 |i+1=>by
  unfold cutI
  split
  ·rename_i h
   rw [spK_succ]
   unfold spF
   rw [if_pos h.1]
  ·exact cutI_at s k i
theorem linesI_cut (s:ByteArray)(k:Nat):∃t,linesI s=linesI (s.extract 0 (cutI s k s.size))++t:=by
 have hp:=cutI_le s k s.size
 have ha:=cutI_at s k s.size
 generalize cutI s k s.size=p at*
 have hz:(s.extract 0 p).size=p:=by rw [ByteArray.size_extract];omega
 have h1:linesI (s.extract 0 p)=(spK s 10 p).1:=by
  rw [linesI_spK,hz,spK_cut 10 hp p (Nat.le_refl _),ha,if_neg (Nat.lt_irrefl _)]
 obtain⟨t,e⟩:=spK_pre s 10 p (s.size-p)
 rw [show p+(s.size-p)=s.size by omega]at e
 rw [h1,linesI_spK]
 split
 ·exact⟨t++[s.extract (spK s 10 s.size).2 s.size],by rw [e,List.append_assoc]⟩
 ·exact⟨t,e⟩
def nlK (s:ByteArray):Nat→Nat
 |0=>0
 |k+1=>nlK s k+if byteN s k=10 then 1 else 0
def nlC (s:ByteArray):Nat:=nlK s s.size
def noNl (s:ByteArray):Prop:=∀i,¬byteN s i=10
def fulC (M:List ByteArray):Nat:=(M.filter fun t=>!decide (t=ByteArray.empty)).length
theorem byteN_app (a b:ByteArray)(i:Nat):byteN (a++b) i=if i<a.size then byteN a i else byteN b (i-a.size):=by
 unfold byteN byteU
 rw [ByteArray.data_append,Array.toList_append]
 have hz:a.data.toList.length=a.size:=rfl
 simp only [List.getD_eq_getElem?_getD]
 split
 ·rw [List.getElem?_append_left (by omega)]
 ·rw [List.getElem?_append_right (by omega),hz]
theorem nlK_appL (a b:ByteArray):∀k,k≤a.size→nlK (a++b) k=nlK a k
 |0,_=>rfl
 |k+1,h=>by
  have e:byteN (a++b) k=byteN a k:=by rw [byteN_app,if_pos (by omega)]
  unfold nlK
  rw [nlK_appL a b k (by omega),e]
theorem nlK_appR (a b:ByteArray):∀k,nlK (a++b) (a.size+k)=nlK a a.size+nlK b k
 |0=>nlK_appL a b _ (Nat.le_refl _)
 |k+1=>by
  have e:byteN (a++b) (a.size+k)=byteN b k:=by rw [byteN_app,if_neg (by omega),Nat.add_sub_cancel_left]
  show nlK (a++b) (a.size+k)+(if byteN (a++b) (a.size+k)=10 then 1 else 0)=nlK a a.size+(nlK b k+if byteN b k=10 then 1 else 0)
  rw [nlK_appR a b k,e,Nat.add_assoc]
theorem nlC_app (a b:ByteArray):nlC (a++b)=nlC a+nlC b:=by
 unfold nlC
 rw [ByteArray.size_append,nlK_appR]
theorem nlK_no {s:ByteArray}(h:noNl s):∀k,nlK s k=0
 |0=>rfl
 |k+1=>by
  unfold nlK
  rw [nlK_no h k,if_neg (h k)]
theorem noNl_app {a b:ByteArray}(ha:noNl a)(hb:noNl b):noNl (a++b):=fun i=>by
 rw [byteN_app]
 split
 ·exact ha i
 ·exact hb _
theorem noNl_bsS {l:List Nat}(h:∀x∈l,x<256∧¬x=10):noNl (bsS l):=fun i=>by
 rw [byte_bsS (fun x hx=>(h x hx).1),nth_eq,List.getD_eq_getElem?_getD]
 cases hg:l[i]? with
 |none=>show¬0=10;omega
 |some x=>exact(h x (List.mem_of_getElem? hg)).2
theorem digF_no:∀k n,∀x∈digF k n,x<256∧¬x=10
 |0,n,x,h=>by
  rw [show digF 0 n=[48+n%10]from rfl,List.mem_singleton]at h
  omega
 |k+1,n,x,h=>by
  by_cases hn:n<10
  ·rw [digF_lo _ hn,List.mem_singleton]at h
   omega
  ·rw [digF_hi _ hn]at h
   rcases List.mem_append.1 h with h|h
   ·exact digF_no k _ x h
   ·rw [List.mem_singleton]at h
    omega
theorem decT_no (n:Int):noNl (decT n):=by
 have h:∀x∈digL n.natAbs,x<256∧¬x=10:=digF_no 9 _
 refine noNl_bsS fun x hx=>?_
 unfold decZ at hx
 split at hx
 ·rw [List.mem_singleton]at hx
  omega
 ·split at hx
  ·rcases List.mem_cons.1 hx with rfl|hx
   ·omega
   ·exact h x hx
  ·exact h x hx
theorem hexT_no:∀j,j<16→¬byteN hexT j=10:=by decide
theorem hexS_no (s:ByteArray):noNl (hexS s):=by
 have key:∀k,∀x∈hexK s k,x<256∧¬x=10:=fun k=>by
  induction k with
  |zero=>intro x h;cases h
  |succ k ih=>
   intro x h
   rw [hexK_succ]at h
   have hb:=byteN_lt s k
   rcases List.mem_append.1 h with h|h
   ·exact ih x h
   ·simp only [List.mem_cons,List.not_mem_nil,or_false]at h
    rcases h with rfl|rfl
    ·exact⟨byteN_lt _ _,hexT_no _ (by omega)⟩
    ·exact⟨byteN_lt _ _,hexT_no _ (by omega)⟩
 exact noNl_bsS (key s.size)
theorem noNl_lit {l:List Nat}(h:(l.all fun x=>decide (x<256)&&!decide (x=10))=true):noNl (bsS l):=noNl_bsS fun x hx=>by
 have:=List.all_eq_true.1 h x hx
 simpa using this
theorem noneW_no:noNl noneW:=noNl_lit (l:=[110,111,110,101]) (by decide)
theorem whatW_no:noNl whatW:=noNl_lit (l:=[119,104,97,116]) (by decide)
theorem okS_no:noNl okS:=noNl_lit (l:=[111,107]) (by decide)
theorem noS_no:noNl noS:=noNl_lit (l:=[110,111]) (by decide)
theorem expW_no:noNl expW:=noNl_lit (l:=[101,120,112,105,114,101,100]) (by decide)
theorem folW_no:noNl folW:=noNl_lit (l:=[102,111,108,108,111,119]) (by decide)
theorem spW_no:noNl spW:=noNl_lit (l:=[32]) (by decide)
theorem emp_no:noNl ByteArray.empty:=noNl_lit (l:=[]) (by decide)
theorem joinS_no (l:List Int):∀k,noNl (joinS l k)
 |0=>emp_no
 |k+1=>by
  show noNl ((if 0<k then joinS l k++spW else joinS l k)++decT (l.getD k 0))
  refine noNl_app ?_ (decT_no _)
  split
  ·exact noNl_app (joinS_no l k) spW_no
  ·exact joinS_no l k
theorem bareD_no (d:TDesk)(w:ByteArray):noNl (bareD d w):=by
 unfold bareD
 split
 ·exact hexS_no _
 split
 ·split
  ·exact noNl_app (noNl_app (decT_no _) spW_no) (hexS_no _)
  ·exact noneW_no
 split
 ·split
  ·exact joinS_no _ _
  ·exact noneW_no
 ·exact whatW_no
theorem oneD_no (d:TDesk)(w:ByteArray)(n:Int):noNl (oneD d w n).2:=by
 rcases one_ways d w n with⟨-,e⟩|⟨-,-,e⟩|⟨-,-,-,e⟩|⟨-,-,-,-,e⟩|⟨-,-,-,-,e⟩<;>rw [e]
 ·show noNl (proofD d n)
  unfold proofD
  split
  ·exact decT_no _
  ·exact noneW_no
 ·split
  ·show noNl (peerT d.2.1 n)
   unfold peerT
   split
   ·exact okS_no
   ·exact noS_no
  ·exact noneW_no
 ·split
  ·show noNl (tickT d.2.1 n)
   unfold tickT
   split
   ·split
    ·exact expW_no
    ·exact folW_no
   ·exact noS_no
  ·exact noneW_no
 ·show noNl (if d.2.2=true then seenT d.2.1 n else noneW)
  split
  ·unfold seenT
   split
   ·exact hexS_no _
   ·exact noneW_no
  ·exact noneW_no
 ·exact whatW_no
theorem twoD_no (d:TDesk)(w:ByteArray)(a b:Int):noNl (twoD d w a b).2:=by
 have hf:∀lie,noNl (feedD d a b lie).2:=fun lie=>by
  unfold feedD
  split
  ·exact decT_no _
  ·exact noneW_no
 rcases two_ways d w a b with⟨-,e⟩|⟨-,-,-,e⟩|⟨-,-,-,e⟩|⟨-,-,-,e⟩<;>rw [e]
 ·unfold startD
  split
  ·exact noneW_no
  ·split
   ·exact okS_no
   ·exact noS_no
 ·exact hf false
 ·exact hf true
 ·exact whatW_no
theorem lineD_no (d:TDesk)(W:List ByteArray):noNl (lineD d W).2:=by
 cases W with
 |nil=>exact whatW_no
 |cons w r=>
  show noNl (if w=chainW∧r.length=2 then chD d (r.getD 0 ByteArray.empty) (r.getD 1 ByteArray.empty)else if numsB r=true then numD d w (numsL r)else(d,whatW)).2
  split
  ·unfold chD
   split
   ·exact decT_no _
   ·exact whatW_no
  ·split
   ·match numsL r with
    |[]=>exact bareD_no d w
    |[a]=>exact oneD_no d w a
    |[a,b]=>exact twoD_no d w a b
    |_::_::_::_=>exact whatW_no
   ·exact whatW_no
theorem nlC_nl:nlC (⟨#[10]⟩:ByteArray)=1:=by decide
theorem stepI_nl (st:TDesk×ByteArray)(t:ByteArray):nlC (stepI st t).2=nlC st.2+if t=ByteArray.empty then 0 else 1:=by
 unfold stepI
 split
 ·rfl
 ·show nlC (st.2++(lineD st.1 (splitS t 32)).2++(⟨#[10]⟩:ByteArray))=_
  have h:nlC (lineD st.1 (splitS t 32)).2=0:=nlK_no (lineD_no _ _) _
  rw [nlC_app,nlC_app,nlC_nl,h]
theorem fulC_snoc (M:List ByteArray)(t:ByteArray):fulC (M++[t])=fulC M+if t=ByteArray.empty then 0 else 1:=by
 unfold fulC
 rw [List.filter_append,List.length_append]
 by_cases h:t=ByteArray.empty
 ·rw [if_pos h,List.filter_cons_of_neg (by simp [h])]
  rfl
 ·rw [if_neg h,List.filter_cons_of_pos (by simp [h])]
  rfl
theorem fulC_cons (t:ByteArray)(r:List ByteArray):fulC (t::r)=(if t=ByteArray.empty then 0 else 1)+fulC r:=by
 unfold fulC
 by_cases h:t=ByteArray.empty
 ·rw [if_pos h,List.filter_cons_of_neg (by simp [h]),Nat.zero_add]
 ·rw [if_neg h,List.filter_cons_of_pos (by simp [h]),List.length_cons,Nat.add_comm]
theorem foldI_nl:∀(M:List ByteArray) (st:TDesk×ByteArray),nlC (M.foldl stepI st).2=nlC st.2+fulC M
 |[],st=>rfl
 |t::r,st=>by
  rw [List.foldl_cons,foldI_nl r,stepI_nl]
  rw [fulC_cons,Nat.add_assoc]
theorem runI_nl (M:List ByteArray):nlC (runI M).2=fulC M:=by
 have h:=foldI_nl M dk0
 have h0:nlC dk0.2=0:=rfl
 unfold runI
 omega
theorem foldI_pre:∀(M:List ByteArray) (st:TDesk×ByteArray),∃t,(M.foldl stepI st).2=st.2++t
 |[],st=>⟨ByteArray.empty,by simp⟩
 |x::r,st=>by
  obtain⟨t,e⟩:=foldI_pre r (stepI st x)
  rw [List.foldl_cons,e]
  unfold stepI
  split
  ·exact⟨t,rfl⟩
  ·exact⟨(lineD st.1 (splitS x 32)).2++(⟨#[10]⟩:ByteArray)++t,by simp only [ByteArray.append_assoc]⟩
theorem runI_pre (A B:List ByteArray):∃t,(runI (A++B)).2=(runI A).2++t:=by
 unfold runI
 rw [List.foldl_append]
 exact foldI_pre B _
theorem desk_law (s:ByteArray)(hs:s.size≤20000)(k:Nat):
  (80<(linesI s).length→deskI s=ByteArray.empty)∧
  (¬80<(linesI s).length→nlC (deskI s)=fulC (linesI s)∧∃t,deskI s=deskI (s.extract 0 (cutI s k s.size))++t):=by
 refine⟨fun h=>?_,fun h=>?_⟩
 ·unfold deskI
  rw [if_pos (.inr h)]
 ·have e:deskI s=(runI (linesI s)).2:=by
   unfold deskI
   rw [if_neg (by omega)]
  refine⟨by rw [e,runI_nl],?_⟩
  obtain⟨t,ht⟩:=linesI_cut s k
  have hl:(linesI (s.extract 0 (cutI s k s.size))).length≤80:=by
   have:=congrArg List.length ht
   rw [List.length_append]at this
   omega
  have hz:(s.extract 0 (cutI s k s.size)).size≤20000:=by rw [ByteArray.size_extract];omega
  have e2:deskI (s.extract 0 (cutI s k s.size))=(runI (linesI (s.extract 0 (cutI s k s.size)))).2:=by
   unfold deskI
   rw [if_neg (by omega)]
  rw [e,e2,ht]
  exact runI_pre _ _
theorem deskI_size (s:ByteArray):(deskI s).size≤96080:=by
 unfold deskI
 split
 ·exact Nat.zero_le _
 ·exact Nat.le_trans (runI_size _) (by omega)
def InvD (s:ByteArray)(k:Nat)(x:Nat×Nat×Nat×Nat×Nat):Prop:=
 (x.1≤s.size∧x.2.1=(spK s 10 x.1).1.length∧x.2.2.1=fulC (spK s 10 x.1).1∧x.2.2.2.1=(spK s 10 x.1).2∧x.2.2.2.2=cutI s k x.1)∨
 (x.1=s.size+1∧x.2.1=(linesI s).length∧x.2.2.1=fulC (linesI s)∧x.2.2.2.2=cutI s k s.size)
theorem InvD.zero (s:ByteArray)(k:Nat):InvD s k (0,0,0,0,0):=.inl ⟨Nat.zero_le _,rfl,rfl,rfl,rfl⟩
theorem fulC_le (M:List ByteArray):fulC M≤M.length:=List.length_filter_le _ _
theorem extract_emp {s:ByteArray}{p i:Nat}(hi:i≤s.size)(hp:p≤i):s.extract p i=ByteArray.empty↔p=i:=by
 have hz:(s.extract p i).size=i-p:=by rw [ByteArray.size_extract];omega
 have h0:ByteArray.empty.size=0:=rfl
 refine⟨fun e=>?_,fun e=>?_⟩
 ·rw [e]at hz
  omega
 ·have hz0:(s.extract p i).data.size=0:=by
   have e:(s.extract p i).data.size=(s.extract p i).size:=rfl
   omega
  have:=Array.eq_empty_of_size_eq_zero hz0
  generalize s.extract p i=t at*
  cases t
  simp only at this
  subst this
  rfl
section
variable {s:ByteArray}{k i n m p c:Nat}
theorem InvD.bounds (h:InvD s k (i,n,m,p,c))(hi:i≤s.size):n≤i∧m≤n∧p≤i∧c≤i:=by
 rcases h with⟨_,h2,h3,h4,h5⟩|⟨h1,_⟩
 ·dsimp only at h2 h3 h4 h5
  have a1:=spK_le s 10 i
  have a2:=fulC_le (spK s 10 i).1
  have a3:=cutI_le s k i
  omega
 ·dsimp only at h1
  omega
theorem InvD.skip (h:InvD s k (i,n,m,p,c))(hi:i<s.size)(hb:¬byteN s i=10):InvD s k (i+1,n,m,p,c):=by
 rcases h with⟨_,h2,h3,h4,h5⟩|⟨h1,_⟩
 ·dsimp only at h2 h3 h4 h5
  have e:spK s 10 (i+1)=spK s 10 i:=by
   rw [spK_succ]
   unfold spF
   rw [if_neg hb]
  have e2:cutI s k (i+1)=cutI s k i:=by
   show(if byteN s i=10∧(spK s 10 i).1.length+1=k then i+1 else cutI s k i)=_
   rw [if_neg (fun q=>hb q.1)]
  exact .inl ⟨hi,by dsimp only;rw [e];exact h2,by dsimp only;rw [e];exact h3,by dsimp only;rw [e];exact h4,by dsimp only;rw [e2];exact h5⟩
 ·dsimp only at h1
  omega
theorem InvD.line (h:InvD s k (i,n,m,p,c))(hi:i<s.size)(hb:byteN s i=10):InvD s k (i+1,n+1,(if p<i then m+1 else m),i+1,(if n+1=k then i+1 else c)):=by
 rcases h with⟨_,h2,h3,h4,h5⟩|⟨h1,_⟩
 ·dsimp only at h2 h3 h4 h5
  have hp:=(spK_le s 10 i).1
  have e:spK s 10 (i+1)=((spK s 10 i).1++[s.extract (spK s 10 i).2 i],i+1):=by
   rw [spK_succ]
   unfold spF
   rw [if_pos hb]
  have e2:cutI s k (i+1)=if(spK s 10 i).1.length+1=k then i+1 else cutI s k i:=by
   show(if byteN s i=10∧(spK s 10 i).1.length+1=k then i+1 else cutI s k i)=_
   by_cases q:(spK s 10 i).1.length+1=k
   ·rw [if_pos ⟨hb,q⟩,if_pos q]
   ·rw [if_neg (fun x=>q x.2),if_neg q]
  refine .inl ⟨hi,?_,?_,?_,?_⟩
  ·dsimp only
   rw [e,List.length_append,h2]
   rfl
  ·dsimp only
   rw [e,fulC_snoc,h3,h4]
   have:=extract_emp (s:=s) (p:=(spK s 10 i).2) (i:=i) (by omega) hp
   by_cases q:(spK s 10 i).2<i
   ·rw [if_pos q,if_neg (fun x=>by have:=this.1 x;omega)]
   ·rw [if_neg q,if_pos (this.2 (by omega))]
    rfl
  ·dsimp only
   rw [e]
  ·dsimp only
   rw [e2,h2,h5]
 ·dsimp only at h1
  omega
theorem InvD.endS (h:InvD s k (s.size,n,m,p,c))(hp:p=s.size):InvD s k (s.size+1,n,m,p,c):=by
 rcases h with⟨_,h2,h3,h4,h5⟩|⟨h1,_⟩
 ·dsimp only at h2 h3 h4 h5
  have e:linesI s=(spK s 10 s.size).1:=by rw [linesI_spK,if_neg (by omega)]
  exact .inr ⟨rfl,by dsimp only;rw [e];exact h2,by dsimp only;rw [e];exact h3,h5⟩
 ·dsimp only at h1
  omega
theorem InvD.endL (h:InvD s k (s.size,n,m,p,c))(hp:¬p=s.size)(q:Nat):InvD s k (s.size+1,n+1,m+1,q,c):=by
 rcases h with⟨_,h2,h3,h4,h5⟩|⟨h1,_⟩
 ·dsimp only at h2 h3 h4 h5
  have hl:=(spK_le s 10 s.size).1
  have e:linesI s=(spK s 10 s.size).1++[s.extract (spK s 10 s.size).2 s.size]:=by rw [linesI_spK,if_pos (by omega)]
  refine .inr ⟨rfl,?_,?_,h5⟩
  ·dsimp only
   rw [e,List.length_append,h2]
   rfl
  ·dsimp only
   have:=extract_emp (s:=s) (p:=(spK s 10 s.size).2) (i:=s.size) (Nat.le_refl _) hl
   rw [e,fulC_snoc,h3,if_neg (fun x=>by have:=this.1 x;omega)]
 ·dsimp only at h1
  omega
theorem InvD.done (h:InvD s k (i,n,m,p,c))(hi:¬i≤s.size):n=(linesI s).length∧m=fulC (linesI s)∧c=cutI s k s.size∧c≤s.size:=by
 rcases h with⟨h1,_⟩|⟨_,h2,h3,h4⟩
 ·exact absurd h1 hi
 ·have:=cutI_le s k s.size
  exact⟨h2,h3,h4,by dsimp only at h4;omega⟩
end
theorem InvD.top {s:ByteArray}{k i n m p c:Nat}(h:InvD s k (i,n,m,p,c)):i≤s.size+1:=by
 rcases h with⟨h1,_⟩|⟨h1,_⟩
 ·dsimp only at h1;omega
 ·dsimp only at h1;omega
theorem begins_app (a t:ByteArray):a.size≤(a++t).size∧(a++t).extract 0 a.size=a:=by
 refine⟨by rw [ByteArray.size_append];omega,?_⟩
 apply ByteArray.ext
 rw [ByteArray.data_extract,ByteArray.data_append]
 apply Array.ext'
 simp only [Array.toList_extract,Array.toList_append,List.extract_eq_take_drop,List.drop_zero,Nat.sub_zero]
 exact List.take_left' rfl
end
section
theorem WL.subA {γ0:Nat→Option Nat}{w0:World}{N:Nat}{st:St}{Q:Exit→Act→World→Prop}{ops:Array Oper}{r:List Oper}(st':St)(hs:Sub st' st:=by exact subP)(h:WL Tryz.prog γ0 w0 N ops r st' Q):WL Tryz.prog γ0 w0 N ops r st Q:=fun a w hR=>h a w (hR.sub hs)
theorem WL.frzA {γ0:Nat→Option Nat}{w0:World}{N:Nat}{st:St}{Q:Exit→Act→World→Prop}{ops:Array Oper}{r:List Oper}(t n:Nat){fl:Fl}{e s:Nat}{rows:List (List Leaf)}(ht:getS st t=one (.all n):=by exact evsP)(hb:getB st n=some (.arr fl e s rows):=by exact evsP)
  (h:WL Tryz.prog γ0 w0 N ops r (.slot t (one (.sl rows))::.kill n::st) Q):WL Tryz.prog γ0 w0 N ops r st Q:=fun a w hR=>h a w (hR.frz ht hb)
abbrev TLine:=TDesk×List ByteArray
theorem line_s:SoundDk Tryz.prog 48 (fun x:TLine=>deskOk x.1∧okW x.2∧0<x.2.length) (fun x=>lDk x.1) (fun x=>[aL cStr x.2]) (fun x=>lDk (lineD x.1 x.2).1) (fun x=>.string (lineD x.1 x.2).2):=by
 refine SoundDk.of Tryz.func48 rfl Tryz.ntmps48 ?_
 rintro⟨⟨L,⟨⟨p,s⟩,st,⟨⟨h1,h2,h3,h4,h5,h6⟩,v⟩,⟨l,n⟩,⟨q,m⟩,now⟩,hs⟩,W⟩ b w ⟨hx,hW,hp⟩ hB
 refine⟨by simp,?_⟩
 simp only [initC,List.map_cons,List.map_nil,toPL]
 simp only [initS,argPV,Nat.reduceAdd,lDk,lLt,List.cons_append,List.nil_append,List.map_cons,List.map_nil,toPL]
 replace hx:deskOk (L,((p,s),st,((h1,h2,h3,h4,h5,h6),v),(l,n),(q,m),now),hs):=hx
 replace hW:okW W:=hW
 obtain⟨w0,r,rfl⟩:∃w0 r,W=w0::r:=by
  cases W with
  |nil=>exact absurd hp (by simp)
  |cons a b=>exact⟨a,b,rfl⟩
 clear hp
 have hΓ:=env_cons (hsO Tryz.func99) readI_s (env_cons (hsO Tryz.func101) decZI_s (env_cons (hsO Tryz.func102) nums_s (env_cons (hsO Tryz.func103) bare_s env_nil)))
 have hlen:=rowsF_len cStr (w0::r)
 have hr0:(rowsF cStr (w0::r))[0]?=some [.sc (.string w0)]:=rfl
 have hL:lineD (L,((p,s),st,((h1,h2,h3,h4,h5,h6),v),(l,n),(q,m),now),hs) (w0::r)=if w0=chainW∧r.length=2 then chD (L,((p,s),st,((h1,h2,h3,h4,h5,h6),v),(l,n),(q,m),now),hs) (r.getD 0 ByteArray.empty) (r.getD 1 ByteArray.empty)else if numsB r=true then numD (L,((p,s),st,((h1,h2,h3,h4,h5,h6),v),(l,n),(q,m),now),hs) w0 (numsL r)else((L,((p,s),st,((h1,h2,h3,h4,h5,h6),v),(l,n),(q,m),now),hs),whatW):=rfl
 by_cases hq:w0=chainW∧r.length=2
 ·rw [if_pos hq]at hL
  obtain⟨hq1,hq2⟩:=hq
  have t1:decide (w0=(⟨#[99,104,97,105,110]⟩:ByteArray))=true:=dcT hq1
  clear hq1
  obtain⟨w1,w2,rfl⟩:∃w1 w2,r=[w1,w2]:=by
   match r,hq2 with
   |[a,b],_=>exact⟨a,b,rfl⟩
  have hr1:(rowsF cStr [w0,w1,w2])[1]?=some [.sc (.string w1)]:=rfl
  have hr2:(rowsF cStr [w0,w1,w2])[2]?=some [.sc (.string w2)]:=rfl
  have hz1:w1.size≤1048576:=hW.2 w1 (by simp)
  have hz2:w2.size≤1048576:=hW.2 w2 (by simp)
  have hC:chD (L,((p,s),st,((h1,h2,h3,h4,h5,h6),v),(l,n),(q,m),now),hs) w1 w2=if(readZ w2).2=true then((chainOf w1 (readZ w2).1,zLt,false),decT (chainOf w1 (readZ w2).1).length)else((L,((p,s),st,((h1,h2,h3,h4,h5,h6),v),(l,n),(q,m),now),hs),whatW):=rfl
  have hg:chD (L,((p,s),st,((h1,h2,h3,h4,h5,h6),v),(l,n),(q,m),now),hs) ([w1,w2].getD 0 ByteArray.empty) ([w1,w2].getD 1 ByteArray.empty)=chD (L,((p,s),st,((h1,h2,h3,h4,h5,h6),v),(l,n),(q,m),now),hs) w1 w2:=rfl
  rw [hg,hC]at hL
  have c1:=mRead_eq w2 (by omega)
  have hlen3:(rowsF cStr [w0,w1,w2]).length=3:=rfl
  clear hg hC hq2 hx hW hlen
  generalize rowsF cStr [w0,w1,w2]=R at*
  have hch:=chOk_of w1 (readZ w2).1
  have c2:=mChainI_eq w1 (readZ w2).1 hz1
  generalize readZ w2=y at*
  obtain⟨y,z⟩:=y
  dsimp only at hL c1 c2 hch
  cases z with
  |false=>
   rw [if_neg (by decide)]at hL
   replace hL:=Lib.hid hL
   clear hch c2
   refine zR ?_
   refine At.retDkA (by rw [Tryz.results48]) hB (hc:=?_) (he:=?_)
   ·rw [hL.out]<;>rfl
   ·rw [hL.out]<;>rfl
  |true=>
   rw [if_pos rfl]at hL
   have hl12:=hch.1
   have c3:=mDecZ_eq ((chainOf w1 y).length:Int) ⟨by omega,by omega⟩
   by_cases hy:1≤y∧y≤12
   ·rw [if_pos hy]at c2
    clear hch hy
    have hcl:=bkRows_len (chainOf w1 y)
    replace hL:=Lib.hid hL
    generalize chainOf w1 y=C at*
    dsimp only [rBO]at c2
    refine zV ?_
    refine WL.opMA (hsO Tryz.func100) chainI_s c2 (h:=?_)
    refine zQ ?_
    refine At.retDkA (by rw [Tryz.results48]) hB (hc:=?_) (he:=?_)
    ·rw [hL.out]<;>rfl
    ·rw [hL.out]<;>rfl
   ·rw [if_neg hy]at c2
    have hC0:chainOf w1 y=[]:=if_neg hy
    rw [hC0]at hL
    clear c3
    have c3:=mDecZ_eq ((0:Nat):Int) ⟨by decide,by decide⟩
    clear hch hy hl12 hC0
    replace hL:=Lib.hid hL
    dsimp only [rN]at c2
    refine zV ?_
    refine WL.opMA (hsO Tryz.func100) chainI_s c2 (h:=?_)
    refine zQ ?_
    refine At.retDkA (by rw [Tryz.results48]) hB (hc:=?_) (he:=?_)
    ·rw [hL.out]<;>rfl
    ·rw [hL.out]<;>rfl
 ·rw [if_neg hq]at hL
  have hWr:okW r:=⟨by have:=hW.1;simp only [List.length_cons]at this;omega,fun x h=>hW.2 x (List.mem_cons_of_mem _ h)⟩
  have c4:=Lib.hid (mNums_eq r hWr)
  have hWl:r.length≤1048576:=hWr.1
  have hn1:(w0::r).length=r.length+1:=rfl
  have e2:=sub_lo (w0::r) 1
  have hd1:(w0::r).drop 1=r:=rfl
  rw [hd1]at e2
  replace hL:=Lib.hid hL
  generalize hn:(w0::r).length=N at*
  generalize hR:rowsF cStr (w0::r)=R at*
  replace hn1:=Lib.hid hn1
  replace hn:=Lib.hid hn
  replace hR:=Lib.hid hR
  replace hd1:=Lib.hid hd1
  replace hq:=Lib.hid hq
  replace e2:=Lib.hid e2
  refine(fun(key:W Tryz.prog (own1 b) w ?nK [.slot 0 (one (.ptr 999 0)),.slot 1 (one (.sl R)),.blk 999 (.box [.sl (bkRows L),.sc (.int .i64 p),.sc (.int .i64 s),.sc (.int .i64 st),.sc (.int .i64 h1),.sc (.int .i64 h2),.sc (.string h3),.sc (.string h4),.sc (.string h5),.sc (.string h6),.sl (rowsF cVal v),.sl (rowsF cHeader l),.sc (.int .i64 n),.sl (rowsF cPeer q),.sc (.int .i64 m),.sc (.int .i64 now),.sc (.bool hs)])] ?codeK ?postK)=>?mainK) ?partK
  case mainK=>
   by_cases hq1:w0=chainW
   ·have t1:decide (w0=(⟨#[99,104,97,105,110]⟩:ByteArray))=true:=dcT hq1
    have t2:decide ((N:Int)=3)=false:=dcF (fun h=>hq.out ⟨hq1,by have:=hn1.out;omega⟩)
    clear hq1
    refine zR ?_
    refine W.subA [.slot 0 (one (.ptr 999 0)),.slot 1 (one (.sl R)),.blk 999 (.box [.sl (bkRows L),.sc (.int .i64 p),.sc (.int .i64 s),.sc (.int .i64 st),.sc (.int .i64 h1),.sc (.int .i64 h2),.sc (.string h3),.sc (.string h4),.sc (.string h5),.sc (.string h6),.sl (rowsF cVal v),.sl (rowsF cHeader l),.sc (.int .i64 n),.sl (rowsF cPeer q),.sc (.int .i64 m),.sc (.int .i64 now),.sc (.bool hs)])] (h:=?_)
    exact key
   ·have t1:decide (w0=(⟨#[99,104,97,105,110]⟩:ByteArray))=false:=dcF hq1
    clear hq1
    refine zR ?_
    refine W.subA [.slot 0 (one (.ptr 999 0)),.slot 1 (one (.sl R)),.blk 999 (.box [.sl (bkRows L),.sc (.int .i64 p),.sc (.int .i64 s),.sc (.int .i64 st),.sc (.int .i64 h1),.sc (.int .i64 h2),.sc (.string h3),.sc (.string h4),.sc (.string h5),.sc (.string h6),.sl (rowsF cVal v),.sl (rowsF cHeader l),.sc (.int .i64 n),.sl (rowsF cPeer q),.sc (.int .i64 m),.sc (.int .i64 now),.sc (.bool hs)])] (h:=?_)
    exact key
  case partK=>
   clear hq hW hWr
   replace hn1:=hn1.out
   replace hn:=hn.out
   replace hR:=hR.out
   replace hd1:=hd1.out
   replace e2:=e2.out
   replace hL:=hL.out
   replace c4:=c4.out
   cases r with
   |nil=>
    have hn0:(rowsF cStr [])=[]:=rfl
    have hb0:numsB []=true:=rfl
    have hm0:numsL []=[]:=rfl
    rw [hb0,hm0,if_pos rfl]at hL c4
    have hx1:R[1]?=none:=by rw [←hR];rfl
    have hx0:(R=[])=False:=by rw [←hR];simp [rowsF]
    have hN1:N=1:=by omega
    subst hN1
    dsimp only [aL]at c4
    rw [hn0]at c4
    have hml:(rowsF cInt []).length=0:=rfl
    clear hd1 hn hn1 e2 hR hn0 hb0 hm0
    have hN:numD (L,((p,s),st,((h1,h2,h3,h4,h5,h6),v),(l,n),(q,m),now),hs) w0 []=((L,((p,s),st,((h1,h2,h3,h4,h5,h6),v),(l,n),(q,m),now),hs),bareD (L,((p,s),st,((h1,h2,h3,h4,h5,h6),v),(l,n),(q,m),now),hs) w0):=rfl
    rw [hN]at hL
    have c5:=mBare_eq (L,((p,s),st,((h1,h2,h3,h4,h5,h6),v),(l,n),(q,m),now),hs) w0 hx
    simp only [lDk,lLt,List.cons_append,List.nil_append]at c5
    clear hx hN
    generalize bareD (L,((p,s),st,((h1,h2,h3,h4,h5,h6),v),(l,n),(q,m),now),hs) w0=X at*
    replace hL:=Lib.hid hL
    refine zR ?_
    refine At.retDkA (by rw [Tryz.results48]) hB (hc:=?_) (he:=?_)
    ·rw [hL.out]<;>rfl
    ·rw [hL.out]<;>rfl
   |cons r0 r'=>
   have hx1:R=[]∨∃row,R[1]?=some row∧row.length=1:=by rw [←hR];exact row_ex (l:=w0::r0::r') (k:=1) (by simp)
   have hn2:2≤N:=by rw [hn1];simp
   have hml0:(numsL (r0::r')).length=r'.length+1:=by unfold numsL;rw [List.length_map];rfl
   clear hn hR hd1 hn1 hWl
   dsimp only [aL]at c4
   generalize rowsF cStr (r0::r')=R1 at*
   generalize numsB (r0::r')=z at*
   generalize numsL (r0::r')=M at*
   cases z with
   |false=>
    rw [if_neg (by decide)]at hL c4
    replace hL:=Lib.hid hL
    refine zR ?_
    refine At.retDkA (by rw [Tryz.results48]) hB (hc:=?_) (he:=?_)
    ·rw [hL.out]<;>rfl
    ·rw [hL.out]<;>rfl
   |true=>
    rw [if_pos rfl]at hL c4
    have hml:=rowsF_len cInt M
    match M,hml0 with
    |[],h0=>exact absurd h0 (by simp)
    |[a],h0=>
     clear h0 hml0
     have hN:numD (L,((p,s),st,((h1,h2,h3,h4,h5,h6),v),(l,n),(q,m),now),hs) w0 [a]=oneD (L,((p,s),st,((h1,h2,h3,h4,h5,h6),v),(l,n),(q,m),now),hs) w0 a:=rfl
     rw [hN]at hL
     have ha0:(rowsF cInt [a])[0]?=some [.sc (.int .i64 a)]:=rfl
     replace hL:=Lib.hid hL
     generalize rowsF cInt [a]=RM at*
     refine zR ?_
     refine W.frzA 7 44 (h:=?_)
     refine W.subA [.slot 0 (one (.ptr 999 0)),.slot 1 (one (.sl R)),.slot 7 (one (.sl RM)),.blk 999 (.box [.sl (bkRows L),.sc (.int .i64 p),.sc (.int .i64 s),.sc (.int .i64 st),.sc (.int .i64 h1),.sc (.int .i64 h2),.sc (.string h3),.sc (.string h4),.sc (.string h5),.sc (.string h6),.sl (rowsF cVal v),.sl (rowsF cHeader l),.sc (.int .i64 n),.sl (rowsF cPeer q),.sc (.int .i64 m),.sc (.int .i64 now),.sc (.bool hs)])] (h:=?_)
     refine W.drawB hΓ 7 [[],[],[1],[1,2],[],[4],[4,5],[0,1,2,3,4,5,6],[0,1,2,3,4,5,6,7]] (Es:=?Es21) (rest:=?rest21) (st1:=?st121) ?_
     refine WL.opDkA (hsO Tryz.func104) one_s ((L,((p,s),st,((h1,h2,h3,h4,h5,h6),v),(l,n),(q,m),now),hs),w0,a) hx (h:=?_)
     refine zQ ?_
     refine At.retDkA (by rw [Tryz.results48]) hB (hc:=?_) (he:=?_)
     ·rw [hL.out]<;>rfl
     ·rw [hL.out]<;>rfl
    |[a,c],h0=>
     clear h0 hml0
     have hN:numD (L,((p,s),st,((h1,h2,h3,h4,h5,h6),v),(l,n),(q,m),now),hs) w0 [a,c]=twoD (L,((p,s),st,((h1,h2,h3,h4,h5,h6),v),(l,n),(q,m),now),hs) w0 a c:=rfl
     rw [hN]at hL
     have ha0:(rowsF cInt [a,c])[0]?=some [.sc (.int .i64 a)]:=rfl
     have ha1:(rowsF cInt [a,c])[1]?=some [.sc (.int .i64 c)]:=rfl
     replace hL:=Lib.hid hL
     generalize rowsF cInt [a,c]=RM at*
     refine zR ?_
     refine W.frzA 7 44 (h:=?_)
     refine W.subA [.slot 0 (one (.ptr 999 0)),.slot 1 (one (.sl R)),.slot 7 (one (.sl RM)),.blk 999 (.box [.sl (bkRows L),.sc (.int .i64 p),.sc (.int .i64 s),.sc (.int .i64 st),.sc (.int .i64 h1),.sc (.int .i64 h2),.sc (.string h3),.sc (.string h4),.sc (.string h5),.sc (.string h6),.sl (rowsF cVal v),.sl (rowsF cHeader l),.sc (.int .i64 n),.sl (rowsF cPeer q),.sc (.int .i64 m),.sc (.int .i64 now),.sc (.bool hs)])] (h:=?_)
     refine W.drawB hΓ 10 [[],[],[1],[1,2],[],[4],[4,5],[],[7],[7,8],[0,1,2,3,4,5,6,7,8,9],[0,1,2,3,4,5,6,7,8,9,10]] (Es:=?Es26) (rest:=?rest26) (st1:=?st126) ?_
     refine WL.opDkA (hsO Tryz.func105) two_s ((L,((p,s),st,((h1,h2,h3,h4,h5,h6),v),(l,n),(q,m),now),hs),w0,a,c) hx (h:=?_)
     refine zQ ?_
     refine At.retDkA (by rw [Tryz.results48]) hB (hc:=?_) (he:=?_)
     ·rw [hL.out]<;>rfl
     ·rw [hL.out]<;>rfl
    |a::c::e::M',h0=>
     clear h0 hml0
     have hN:numD (L,((p,s),st,((h1,h2,h3,h4,h5,h6),v),(l,n),(q,m),now),hs) w0 (a::c::e::M')=((L,((p,s),st,((h1,h2,h3,h4,h5,h6),v),(l,n),(q,m),now),hs),whatW):=rfl
     rw [hN]at hL
     have k0:decide (((rowsF cInt (a::c::e::M')).length:Int)=0)=false:=dcF (by rw [hml];simp only [List.length_cons];omega)
     have k1:decide (((rowsF cInt (a::c::e::M')).length:Int)=1)=false:=dcF (by rw [hml];simp only [List.length_cons];omega)
     have k2:decide (((rowsF cInt (a::c::e::M')).length:Int)=2)=false:=dcF (by rw [hml];simp only [List.length_cons];omega)
     clear hml
     generalize rowsF cInt (a::c::e::M')=RM at*
     replace hL:=Lib.hid hL
     refine zR ?_
     refine At.retDkA (by rw [Tryz.results48]) hB (hc:=?_) (he:=?_)
     ·rw [hL.out]<;>rfl
     ·rw [hL.out]<;>rfl
end
section
def dkL (d:TDesk):List PL:=(lDk d).map toPL
theorem lsNms_dk (d:TDesk):lsNms (dkL d)=[]:=rfl
theorem kill_dk (n:Nat)(d:TDesk):(dkL d).map (PL.kill n)=dkL d:=rfl
theorem dkL_0:dkL (runI []).1=[.sl [],.sc (.int .i64 0),.sc (.int .i64 0),.sc (.int .i64 0),.sc (.int .i64 0),.sc (.int .i64 0),.sc (.string ByteArray.empty),.sc (.string ByteArray.empty),.sc (.string ByteArray.empty),.sc (.string ByteArray.empty),.sl [],.sl [],.sc (.int .i64 0),.sl [],.sc (.int .i64 0),.sc (.int .i64 0),.sc (.bool false)]:=rfl
noncomputable def mDeskI:=mdl (fun s:ByteArray=>s.size≤1048576) (fun s=>[aS s]) (fun s=>rS (deskI s))
theorem mDeskI_eq (s:ByteArray)(h:s.size≤1048576):mDeskI [aS s]=some (rS (deskI s)):=mdl_eq (enc:=fun s:ByteArray=>[aS s]) (by intro a b h;simpa using h) s h
theorem deskI_s:Sound Tryz.prog 11 mDeskI:=by
 refine Sound.mdl Tryz.func11 rfl Tryz.ntmps11 ?_
 rintro s w hs
 refine⟨by simp,?_⟩
 replace hs:s.size≤1048576:=hs
 have hΓ:=env_cons (hsO Tryz.func47) split_s env_nil
 have c1:mSplit [aS s,.val false [.sc (.int .u8 10)]]=some (rL 9 1 cStr (splitS s 10)):=mSplit_eq s 10 (by omega) (by decide)
 obtain⟨⟨h0,h1⟩,h2⟩:=splitS_small s 10
 obtain⟨hm1,hm2⟩:=linesI_small s
 have hM:linesI s=if(splitS s 10).getD ((splitS s 10).length-1) ByteArray.empty=ByteArray.empty then(splitS s 10).take ((splitS s 10).length-1)else splitS s 10:=rfl
 have hD:deskI s=if 20000<s.size∨80<(linesI s).length then ByteArray.empty else(runI (linesI s)).2:=rfl
 replace hD:=Lib.hid hD
 generalize linesI s=M at*
 generalize splitS s 10=L at*
 have hrow:=Lib.hid (row_s (l:=L) (k:=L.length-1) (by omega))
 have hlen:=rowsF_len cStr L
 have ek:((L.length:Int)-1).toNat=L.length-1:=by omega
 have hll:1≤L.length:=h0
 have hll2:L.length≤1048577:=by omega
 have x0:=row_ex (l:=L) (k:=0) h0
 have e1:=rowsF_take cStr L (L.length-1)
 generalize L.getD (L.length-1) ByteArray.empty=t at*
 replace hM:=Lib.hid hM
 replace e1:=Lib.hid e1
 clear h2
 refine zJ ?_
 refine W.frzA 3 9 (h:=?_)
 replace hrow:=hrow.out
 refine(fun(key:W Tryz.prog none0 w ?nK [.slot 0 (one (.sc (.string s))),.slot 3 (one (.sl (rowsF cStr M)))] ?codeK ?postK)=>?mainK) ?partK
 case mainK=>
  refine W.subA [.slot 0 (one (.sc (.string s))),.slot 3 (one (.sl (rowsF cStr L)))] (h:=?_)
  replace hM:=hM.out
  by_cases ht:t=ByteArray.empty
  ·rw [if_pos ht]at hM
   have t1:decide (t=(⟨#[]⟩:ByteArray))=true:=dcT ht
   have e3:=e1.out
   rw [←hM]at e3
   replace hM:=Lib.hid hM
   clear ht
   refine zR ?_
   refine W.subA [.slot 0 (one (.sc (.string s))),.slot 3 (one (.sl (rowsF cStr M)))] (h:=?_)
   exact key
  ·rw [if_neg ht]at hM
   have t1:decide (t=(⟨#[]⟩:ByteArray))=false:=dcF ht
   rw [hM]at key
   clear ht
   replace hM:=Lib.hid hM
   refine zR ?_
   refine W.subA [.slot 0 (one (.sc (.string s))),.slot 3 (one (.sl (rowsF cStr L)))] (h:=?_)
   exact key
 case partK=>
  clear hM hrow hlen ek hll hll2 x0 e1 h0 h1 c1
  have hlen:=rowsF_len cStr M
  replace hD:=hD.out
  by_cases q1:20000<s.size
  ·rw [if_pos (.inl q1)]at hD
   replace hD:=Lib.hid hD
   have t1:decide ((20000:Int)<(s.size:Int))=true:=dcT (by omega)
   refine zR ?_
   refine At.retA (by rw [Tryz.results11]) (he:=?_)
   rw [hD.out]
   rfl
  ·by_cases q2:80<M.length
   ·rw [if_pos (.inr q2)]at hD
    replace hD:=Lib.hid hD
    refine zR ?_
    refine At.retA (by rw [Tryz.results11]) (he:=?_)
    rw [hD.out]
    rfl
   ·rw [if_neg (by omega)]at hD
    replace hD:=Lib.hid hD
    refine zR ?_
    refine W.frzB 31 (h:=?_)
    have hld:=lsNms_dk
    have hkd:=kill_dk
    refine W.loopA (fun k=>k≤M.length) (fun k:Nat=>[.slot 32 (one (.sl (rowsF cStr M))),.slot 33 (vI M.length),.slot 34 (vI k),.slot 4 (one (.ptr 31 0)),.blk 31 (.box (dkL (runI (M.take k)).1)),.slot 5 (one (.sc (.string (runI (M.take k)).2)))]) (fun k=>M.length-k) 0 (Nat.zero_le _) (hs:=?_) (h:=?_)
    ·rw [List.take_zero,dkL_0]
     exact subP
    rintro k hk
    by_cases hlt:k<M.length
    ·have hrow:=cStr_rowN M k hlt
     have hok:=runI_ok (M.take k)
     have hos:(runI (M.take k)).2.size≤96080:=Nat.le_trans (runI_size (M.take k)) (by rw [List.length_take];omega)
     have hst:runI (M.take (k+1))=stepI (runI (M.take k)) M[k]:=by rw [List.take_succ_eq_append_getElem hlt,runI_snoc]
     have hsz:=hm2 M[k] (List.getElem_mem hlt)
     replace hst:=Lib.hid hst
     generalize runI (M.take k)=y at*
     obtain⟨d,out⟩:=y
     generalize M[k]=t at*
     by_cases ht:t=ByteArray.empty
     ·have t1:decide (t=(⟨#[]⟩:ByteArray))=true:=dcT ht
      replace hst:=hst.out
      unfold stepI at hst
      rw [if_pos ht]at hst
      replace hst:=Lib.hid hst
      clear ht hok
      refine zR ?_
      refine At.roundA (k+1) (by omega) (by omega) (hs:=?_)
      rw [hst.out]
      exact subP
     ·have t1:decide (t=(⟨#[]⟩:ByteArray))=false:=dcF ht
      replace hst:=hst.out
      unfold stepI at hst
      rw [if_neg ht]at hst
      obtain⟨⟨w0,w1⟩,w2⟩:=splitS_small t 32
      have c2:mSplit [aS t,.val false [.sc (.int .u8 32)]]=some (rL 9 1 cStr (splitS t 32)):=mSplit_eq t 32 (by omega) (by decide)
      have hW:okW (splitS t 32):=⟨by omega,fun x hx=>by have:=w2 x hx;omega⟩
      clear ht w2
      generalize splitS t 32=W at*
      dsimp only at hst hok hos
      have hls:=lineD_size d W
      have hnl:=nl_size
      have hol:(out++(lineD d W).2).size≤97280:=app_size hos hls (by decide)
      replace hst:=Lib.hid hst
      refine zV ?_
      refine WL.frzA 43 43 (h:=?_)
      refine WL.subA [.slot 32 (one (.sl (rowsF cStr M))),.slot 33 (vI M.length),.slot 34 (vI k),.slot 4 (one (.ptr 31 0)),.slot 40 (one (.sc (.string out))),.slot 41 (one (.ptr 31 0)),.slot 43 (one (.sl (rowsF cStr W))),.blk 31 (.box (dkL d))] (h:=?_)
      refine WL.opDkA (hsO Tryz.func48) line_s (d,W) ⟨hok,hW,w0⟩ (st1:=[.slot 44 (one (.sc (.string (lineD d W).2))),.blk 31 (.box (dkL (lineD d W).1)),.slot 32 (one (.sl (rowsF cStr M))),.slot 33 (vI M.length),.slot 34 (vI k),.slot 4 (one (.ptr 31 0)),.slot 40 (one (.sc (.string out))),.slot 41 (one (.ptr 31 0)),.slot 43 (one (.sl (rowsF cStr W))),.blk 31 (.box (dkL d))]) (h:=?_)
      refine zQ ?_
      refine At.roundA (k+1) (by omega) (by omega) (hs:=?_)
      rw [hst.out]
      exact subP
    ·have hke:M.take k=M:=List.take_of_length_le (by omega)
     rw [hke]
     clear hke
     refine zR ?_
     refine At.retA (by rw [Tryz.results11]) (he:=?_)
     rw [hD.out]
end
end Go.Proofs.YtfgkfcfplodaoaaGreatDoor
