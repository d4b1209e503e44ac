/-
  Put together out of 6 texts.
-/
import Derived.Test.YtfgkfcfplodaoaaGreatDoorG18
import Derived.Test.YtfgkfcfplodaoaaGreatDoorG19
set_option linter.unusedSimpArgs false
set_option linter.unusedVariables false
set_option maxRecDepth 100000
set_option maxHeartbeats 4000000
namespace Go.Proofs.YtfgkfcfplodaoaaGreatDoor
open Go Go.RowKit
section
theorem cStr_appT (l:List ByteArray)(x:ByteArray):rowsF cStr l++[[.sc (.string x)]]=rowsF cStr (l++[x]):=by rw [←rowsF_app];rfl
def rText (m:Int)(s:ByteArray):Prop:=(s.size:Int)≤m
theorem l1Text_s:SoundCu Tryz.prog 164 (fun m:Int=>0≤m∧m≤1000) (fun m=>[aI m]) rText (fun _ s=>rS s):=by
 refine SoundCu.of Tryz.func164 rfl Tryz.ntmps164 ?_
 rintro k0 m b w hc ⟨hm0,hm1⟩ hB
 refine⟨by simp,?_⟩
 simp only [initC]
 have hΓ:=eN
 have hBe:Has Tryz.prog 56:=hsO Tryz.func56
 have hBy:Has Tryz.prog 113:=hsO Tryz.func113
 obtain⟨g,hg,hg2⟩:=wrap_u8_ex
 have hcu:=lsNms_cu
 have hck:=kill_cu
 refine zI ?_
 refine zV ?_
 refine WL.opCu hBe l1Below_s k0 hc 4 (by decide) (h:=?_)
 rintro k1 s0 hk1 ⟨hs0,hs1,-⟩
 replace hs1:s0<4:=hs1 (by decide)
 refine zM ?_
 refine zV ?_
 refine WL.opCu hBe l1Below_s k1 hk1.ok (m+1) ⟨by omega,by omega⟩ (h:=?_)
 rintro k2 n0 hk2 ⟨hn0,hn1,-⟩
 replace hn1:n0<m+1:=hn1 (by omega)
 have hnil:rowsF cU8 []=[]:=rfl
 refine zQ ?_
 refine W.loopA (fun x:List Nat×Int×Cu=>CuTo k0 x.2.2∧0≤x.2.1∧x.1.length+x.2.1=n0) (fun x=>[.slot 0 (one (.ptr 999 0)),.blk 999 (.box (cuL x.2.2)),.slot 5 (one (.all 9)),.blk 9 (.arr .ft 5 1 (rowsF cU8 x.1)),.slot 6 (vI s0),.slot 7 (vI x.2.1)]) (fun x=>x.2.1.toNat) ([],n0,k2) ⟨hk1.trans hk2,hn0,by simp⟩ (h:=?_)
 rintro⟨l,n,k⟩ ⟨hk,hn,hl⟩
 dsimp only at hk hn hl⊢
 by_cases hp:0<n
 ·have hlen:l.length≤1000:=by omega
  refine zV ?_
  refine WL.opCu hBy l1Byte_s k hk.ok () trivial (h:=?_)
  rintro k3 r hk3 ⟨hr0,hr1⟩
  refine zM ?_
  by_cases h1:s0=1
  ·subst h1
   have e:=cU8_app l (g (r.tmod 2))
   have hnz:((2:Int)=0)=False:=by simp
   have t0:0≤r.tmod 2:=Int.tmod_nonneg _ hr0
   have t1:r.tmod 2<2:=Int.tmod_lt_of_pos _ (by decide)
   refine zR ?_
   exact At.roundA (l++[g (r.tmod 2)],n-1,k3) ⟨hk.trans hk3,by dsimp only;omega,by simp;omega⟩ (by dsimp only;omega)
  ·by_cases h2:s0=2
   ·subst h2
    have e:=cU8_app l (g (97+r.tmod 4))
    have hnz:((4:Int)=0)=False:=by simp
    have t0:0≤r.tmod 4:=Int.tmod_nonneg _ hr0
    have t1:r.tmod 4<4:=Int.tmod_lt_of_pos _ (by decide)
    refine zR ?_
    exact At.roundA (l++[g (97+r.tmod 4)],n-1,k3) ⟨hk.trans hk3,by dsimp only;omega,by simp;omega⟩ (by dsimp only;omega)
   ·have e:=cU8_app l (g r)
    refine zR ?_
    exact At.roundA (l++[g r],n-1,k3) ⟨hk.trans hk3,by dsimp only;omega,by simp;omega⟩ (by dsimp only;omega)
 ·have hb:=bytes_rows l
  refine zR ?_
  refine At.retCu (by rw [Tryz.results164]) hB (hls:=?_) (he:=?_) k (bsS l) hk (show((bsS l).size:Int)≤m by rw [bsS_size];omega)
  ·rfl
  ·rfl
end
section
def atC (bs:List Nat)(i:Int):Int:=if i<bs.length then((bs.getD i.toNat 0:Nat):Int)else(i*37+bs.length*11).tmod 256
abbrev okAt (x:List Nat×Int):Prop:=((∀n∈x.1,n<256)∧x.1.length≤1048576)∧0≤x.2∧x.2≤1000
noncomputable def mAt:=mdl okAt (fun x=>[aL cU8 x.1,aI x.2]) (fun x=>rI (atC x.1 x.2))
theorem encAt_inj:∀x y:List Nat×Int,([aL cU8 x.1,aI x.2]:List Arg)=[aL cU8 y.1,aI y.2]→x=y:=by
 rintro⟨a,b⟩ ⟨d,e⟩ h
 simpa [rowsF_U8]using h
theorem mAt_eq (bs:List Nat)(i:Int)(h:okAt (bs,i)):mAt [aL cU8 bs,aI i]=some (rI (atC bs i)):=mdl_eq encAt_inj (bs,i) h
theorem atC_range {bs:List Nat}{i:Int}(h:okAt (bs,i)):0≤atC bs i∧atC bs i<256:=by
 obtain⟨⟨h1,h2⟩,h3,h4⟩:=h
 dsimp only at h1 h2 h3 h4
 unfold atC
 split
 ·rename_i hl
  rw [List.getD_eq_getElem?_getD,gsE (by omega)]
  have:=h1 (bs[i.toNat]'(by omega)) (List.getElem_mem _)
  simp only [Option.getD_some]
  omega
 ·rw [Int.tmod_eq_emod_of_nonneg (by omega)]
  omega
theorem at_s:Sound Tryz.prog 9 mAt:=by
 refine Sound.mdl Tryz.func9 rfl Tryz.ntmps9 ?_
 rintro⟨bs,i⟩ w ⟨⟨hb,hl⟩,h0,h1⟩
 refine⟨by simp,?_⟩
 dsimp only at hb hl h0 h1
 have hΓ:=eN
 have hlen:=rowsF_len cU8 bs
 refine zI ?_
 by_cases hi:i<bs.length
 ·have hrow:(rowsF cU8 bs)[i.toNat]?=some [.sc (.int .u8 ((bs[i.toNat]'(by omega):Nat):Int))]:=rowsF_get cU8 bs i.toNat (by omega)
  have hn:=hb (bs[i.toNat]'(by omega)) (List.getElem_mem _)
  have hv:atC bs i=((bs[i.toNat]'(by omega):Nat):Int):=by
   unfold atC
   rw [if_pos hi,List.getD_eq_getElem?_getD,gsE (by omega)]
   rfl
  clear hb
  generalize bs[i.toNat]'(by omega)=n at hrow hn hv
  refine zR ?_
  refine At.retA (by rw [Tryz.results9]) (he:=?_)
  rw [hv]
 ·have hv:atC bs i=(i*37+bs.length*11).tmod 256:=by unfold atC;rw [if_neg hi]
  have hnz:((256:Int)=0)=False:=by simp
  clear hb
  refine zR ?_
  refine At.retA (by rw [Tryz.results9]) (he:=?_)
  rw [hv]
end
section
open Go Go.RowKit Go.ChangeShapes Go.WideShapes Go.ChangeAt Go.Deep
theorem cellsU8:Tryz.prog.cellsOf 5=1:=by kernel_rfl
theorem bytesU8:Tryz.prog.bytesOf 5=1:=by kernel_rfl
theorem elem_u8 {P:Program}{H:Type}{enc:TypeId×Value→H}{w:World}{base:Nat}{spare:Nat→Bool}{held:Bool}{e:TypeId}(he:P.underlying e=some (.int .u8)){B:Nat}:∀n cs y,cs.length=1→DataW.trod enc P w base spare held n e cs=some y→(∀p∈y.2,p.block<B)→∃x:Nat,cs=cU8 x∧x<256:=by
 intro n cs y _ h _
 obtain⟨s,rfl,_,hs⟩:=DataW.trod_int he h
 have h1:0≤s∧s≤255:=by
  simpa [Lit.wf,IntKind.min,IntKind.max,IntKind.signed,IntKind.bits]using hs
 refine⟨s.toNat,?_,by omega⟩
 have:((s.toNat:Nat):Int)=s:=by omega
 unfold cU8
 rw [this]
theorem law_code {f:FuncId}{v:Value}{bs:List Nat}{w:World}(hs:Sound Tryz.prog f (mdl (fun bs:List Nat=>bs.length≤9223372036854775807∧∀n∈bs,n<256) (fun bs=>[aL cU8 bs]) fun _=>rB true))(h:RdS w w.heap.size 1 cU8 v bs)(hb:∀n∈bs,n<256)(hl:bs.length≤9223372036854775807)(hg:GlobOk none0 w:=by first|exact glob_triv|assumption):
  Calls Tryz.prog f #[v] w fun e w'=>e=.returned (.bool true)∧Below w.heap.size w w':=
 calls_says hs (mdl_eq (by intro a b h;simpa [rowsF_U8]using h) bs ⟨hl,hb⟩) (RepAs.cons (aL_rep (fun _=>rfl) (fun x u hu=>by simp only [cU8,List.mem_singleton]at hu;rw [hu];rfl) h) RepAs.nil) hg
end
section
def bl (s:ByteArray):List Nat:=s.data.toList.map UInt8.toNat
theorem bl_len (s:ByteArray):(bl s).length=s.size:=by unfold bl;rw [List.length_map,Array.length_toList];rfl
theorem bl_bsS {l:List Nat}(h:∀d∈l,d<256):bl (bsS l)=l:=by
 unfold bl bsS
 simp only [List.map_map]
 conv=>rhs;rw [←List.map_id l]
 refine List.map_congr_left fun d hd=>?_
 have:=h d hd
 simp only [Function.comp_apply,UInt8.toNat_ofNat',id_eq]
 omega
theorem bl_at {s:ByteArray}{i:Nat}(h:i<(bl s).length):∃b:UInt8,s.data.toList[i]?=some b∧b.toNat=(bl s)[i]:=by
 have hi:i<s.data.toList.length:=by
  have:=h
  unfold bl at this
  rwa [List.length_map]at this
 have h2:(bl s)[i]?=some (s.data.toList[i]).toNat:=by unfold bl;rw [List.getElem?_map,gsE hi];rfl
 exact⟨s.data.toList[i],gsE hi,(gsS h2).2.symm⟩
def isDg (d:Nat):Prop:=48≤d∧d≤57
instance (d:Nat):Decidable (isDg d):=by unfold isDg;infer_instance
def valD (a:Nat)(l:List Nat):Nat:=l.foldl (fun a d=>a*10+(d-48)) a
theorem digF_dg:∀k n,∀d∈digF k n,isDg d
 |0,n,d,h=>by
  have h1:d=48+n%10:=List.mem_singleton.1 h
  rw [h1]
  unfold isDg;omega
 |k+1,n,d,h=>by
  unfold digF at h
  split at h
  ·rw [List.mem_singleton.1 h]
   unfold isDg;omega
  ·rcases List.mem_append.1 h with h|h
   ·exact digF_dg k _ d h
   ·rw [List.mem_singleton.1 h]
    unfold isDg;omega
theorem digF_val:∀k n,n<10^(k+1)→valD 0 (digF k n)=n
 |0,n,h=>by
  simp [digF,valD]
  simp at h
  omega
 |k+1,n,h=>by
  unfold digF
  split
  ·simp [valD];omega
  ·rename_i hn
   have ih:=digF_val k (n/10) (by rw [Nat.pow_succ]at h;omega)
   unfold valD at ih⊢
   rw [List.foldl_append,ih]
   simp
   omega
theorem digF_max:∀k n j,n<10^(j+1)→(digF k n).length≤j+1
 |0,n,j,_=>by simp [digF]
 |k+1,n,j,h=>by
  unfold digF
  split
  ·simp
  ·rename_i hn
   cases j with
   |zero=>simp at h;omega
   |succ j=>
    have:=digF_max k (n/10) j (by rw [Nat.pow_succ]at h;omega)
    simp
    omega
theorem valD_lt:∀(l:List Nat) (a:Nat),(∀d∈l,isDg d)→valD a l<(a+1)*10^l.length
 |[],a,_=>by simp [valD]
 |d::l,a,h=>by
  have hd:=h d List.mem_cons_self
  have ih:=valD_lt l (a*10+(d-48)) (fun x hx=>h x (List.mem_cons_of_mem _ hx))
  have e:valD a (d::l)=valD (a*10+(d-48)) l:=rfl
  rw [e]
  refine Nat.lt_of_lt_of_le ih ?_
  rw [List.length_cons,Nat.pow_succ]
  unfold isDg at hd
  have:a*10+(d-48)+1≤(a+1)*10:=by omega
  calc (a*10+(d-48)+1)*10^l.length≤((a+1)*10)*10^l.length:=Nat.mul_le_mul_right _ this
   _=(a+1)*(10^l.length*10):=by rw [Nat.mul_assoc,Nat.mul_comm 10]
theorem valD_snoc (a:Nat)(l:List Nat)(d:Nat):valD a (l++[d])=valD a l*10+(d-48):=by
 unfold valD
 rw [List.foldl_append]
 rfl
theorem digL_props {n:Nat}(h:n≤999999999):(∀d∈digL n,isDg d)∧valD 0 (digL n)=n∧(digL n).length≤9∧0<(digL n).length:=
 ⟨digF_dg 9 n,digF_val 9 n (by omega),digF_max 9 n 8 (by omega),digF_pos 9 n⟩
theorem decZ_parts {n:Int}(h:okDecZ n):∃(neg:Bool) (l:List Nat),decZ n=(if neg then 45::l else l)∧(∀d∈l,isDg d)∧l.length≤9∧0<l.length∧n=if neg then-((valD 0 l:Nat):Int)else((valD 0 l:Nat):Int):=by
 obtain⟨h1,h2⟩:=h
 rcases int_cases n with rfl|⟨a,ha,rfl⟩|⟨a,ha,rfl⟩
 ·exact⟨false,[48],rfl,fun d hd=>by rw [List.mem_singleton.1 hd];decide,by decide,by decide,rfl⟩
 ·obtain⟨p1,p2,p3,p4⟩:=digL_props (n:=a) (by omega)
  exact⟨false,digL a,by rw [decZ_pos ha];rfl,p1,p3,p4,by rw [p2];rfl⟩
 ·obtain⟨p1,p2,p3,p4⟩:=digL_props (n:=a) (by omega)
  exact⟨true,digL a,by rw [decZ_neg ha];rfl,p1,p3,p4,by rw [p2];rfl⟩
theorem decZ_lt {n:Int}(h:okDecZ n):∀d∈decZ n,d<256:=by
 obtain⟨neg,l,e,p1,_⟩:=decZ_parts h
 rw [e]
 intro d hd
 have key:∀d∈l,d<256:=fun d hd=>by have:=p1 d hd;unfold isDg at this;omega
 cases neg with
 |false=>exact key d hd
 |true=>
  rcases List.mem_cons.1 hd with rfl|hd
  ·decide
  ·exact key d hd
def sgn (L:List Nat):Bool:=decide (L.head?=some 45)
def dgs (L:List Nat):List Nat:=if sgn L then L.tail else L
def sval (L:List Nat):Int:=if sgn L then-((valD 0 (dgs L):Nat):Int)else((valD 0 (dgs L):Nat):Int)
theorem decZ_sval {n:Int}(h:okDecZ n):(∀d∈dgs (decZ n),isDg d)∧(dgs (decZ n)).length≤9∧0<(dgs (decZ n)).length∧sval (decZ n)=n:=by
 obtain⟨neg,l,e,p1,p2,p3,p4⟩:=decZ_parts h
 have hs:sgn (decZ n)=neg:=by
  rw [e]
  unfold sgn
  cases neg with
  |true=>simp
  |false=>
   cases l with
   |nil=>cases p3
   |cons d l=>
    have:=p1 d List.mem_cons_self
    unfold isDg at this
    simp
    omega
 have hd:dgs (decZ n)=l:=by
  unfold dgs
  rw [hs,e]
  cases neg<;>rfl
 have hv:sval (decZ n)=n:=by
  unfold sval
  rw [hs,hd]
  exact p4.symm
 rw [hd]
 exact⟨p1,p2,p3,hv⟩
open Classical in
noncomputable def readZ (s:ByteArray):Int×Bool:=if∃n,okDecZ n∧bsS (decZ n)=s then(sval (bl s),true)else(0,false)
theorem readZ_yes {s:ByteArray}{n:Int}(h:okDecZ n)(he:bsS (decZ n)=s):readZ s=(n,true):=by
 have hb:bl s=decZ n:=by rw [←he];exact bl_bsS (decZ_lt h)
 unfold readZ
 rw [if_pos ⟨n,h,he⟩,hb,(decZ_sval h).2.2.2]
theorem readZ_no {s:ByteArray}(h:∀n,okDecZ n→bl s=decZ n→bsS (decZ n)=s→False):readZ s=(0,false):=by
 unfold readZ
 rw [if_neg]
 rintro⟨n,h1,h2⟩
 exact h n h1 (by rw [←h2];exact bl_bsS (decZ_lt h1)) h2
end
section
end
section
def fS (q:Nat×Nat)(d:Nat):Nat×Nat:=if isDg d then(q.1*10+(d-48),q.2+1)else q
theorem fS_dg:∀(l:List Nat) (a k:Nat),(∀d∈l,isDg d)→l.foldl fS (a,k)=(valD a l,k+l.length)
 |[],a,k,_=>rfl
 |d::l,a,k,h=>by
  have hd:=h d List.mem_cons_self
  rw [List.foldl_cons]
  have e:fS (a,k) d=(a*10+(d-48),k+1):=by unfold fS;rw [if_pos hd]
  rw [e,fS_dg l _ _ (fun x hx=>h x (List.mem_cons_of_mem _ hx)),List.length_cons]
  refine Prod.ext rfl ?_
  dsimp only;omega
theorem fS_lt:∀(l:List Nat) (q:Nat×Nat),q.1<10^q.2→(l.foldl fS q).1<10^(l.foldl fS q).2∧(l.foldl fS q).2≤q.2+l.length
 |[],q,h=>⟨h,by simp⟩
 |d::l,q,h=>by
  rw [List.foldl_cons,List.length_cons]
  have h2:(fS q d).1<10^(fS q d).2∧(fS q d).2≤q.2+1:=by
   unfold fS
   split
   ·rename_i hd
    unfold isDg at hd
    refine⟨?_,Nat.le_refl _⟩
    dsimp only
    rw [Nat.pow_succ]
    omega
   ·exact⟨h,by omega⟩
  have h3:=fS_lt l (fS q d) h2.1
  exact⟨h3.1,by omega⟩
theorem fS_dec {n:Int}(h:okDecZ n):(decZ n).foldl fS (0,0)=(valD 0 (dgs (decZ n)),(dgs (decZ n)).length):=by
 obtain⟨p1,p2,p3,p4⟩:=decZ_sval h
 have e:=fS_dg _ 0 0 p1
 rw [Nat.zero_add]at e
 rw [←e]
 unfold dgs
 split
 ·rename_i hs
  unfold sgn at hs
  have hh:=of_decide_eq_true hs
  cases hz:decZ n with
  |nil=>rw [hz]at hh;cases hh
  |cons d r=>
   rw [hz]at hh
   simp only [List.head?_cons,Option.some.injEq]at hh
   subst hh
   rfl
 ·rfl
theorem decZ_ten {n:Int}(h:okDecZ n):(decZ n).length≤10:=by
 obtain⟨neg,l,e,p1,p2,p3,p4⟩:=decZ_parts h
 rw [e]
 cases neg
 ·simp;omega
 ·simp;omega
theorem pow_le9 {k:Nat}(h:k≤9):10^k≤1000000000:=Nat.pow_le_pow_right (n:=10) (by omega) h
theorem pow_le11 {k:Nat}(h:k≤11):10^k≤100000000000:=Nat.pow_le_pow_right (n:=10) (by omega) h
theorem rdS_no {s:ByteArray}{a k:Nat}(hq:((bl s).take 11).foldl fS (0,0)=(a,k))(h:9<k∨10<s.size∨∀n,okDecZ n→n=(if sgn (bl s)then-(a:Int)else(a:Int))→¬bsS (decZ n)=s):readZ s=(0,false):=by
 refine readZ_no fun n h1 h2 h3=>?_
 have h10:=decZ_ten h1
 have hl:=bl_len s
 rw [List.take_of_length_le (by rw [h2];omega),h2,fS_dec h1]at hq
 obtain⟨p1,p2,p3,p4⟩:=decZ_sval h1
 have e1:=congrArg Prod.fst hq
 have e2:=congrArg Prod.snd hq
 dsimp only at e1 e2
 rcases h with h|h|h
 ·omega
 ·rw [h2]at hl;omega
 ·refine h n h1 ?_ h3
  rw [h2]
  unfold sval at p4
  rw [e1]at p4
  exact p4.symm
noncomputable def mRead:=mdl (fun s:ByteArray=>s.size≤9223372036854775807) (fun s=>[aS s]) (fun s=>.tup [rSc (.int .i64 (readZ s).1),rSc (.bool (readZ s).2)])
theorem mRead_eq (s:ByteArray)(h:s.size≤9223372036854775807):mRead [aS s]=some (.tup [rSc (.int .i64 (readZ s).1),rSc (.bool (readZ s).2)]):=mdl_eq (by intro a b h;simpa using h) s h
theorem sgn_nil {s:ByteArray}(h:s.size=0):sgn (bl s)=false:=by
 have:bl s=[]:=List.length_eq_zero_iff.1 (by rw [bl_len,h])
 rw [this]
 rfl
theorem sgn_at {s:ByteArray}(h:0<(bl s).length):sgn (bl s)=decide ((bl s)[0]=45):=by
 unfold sgn
 rw [List.head?_eq_getElem?,gsE h]
 simp
theorem wrap_sub {d:Nat}(h:48≤d)(h2:d<256):IntKind.u8.wrap ((d:Int)-48)=((d-48:Nat):Int):=by
 rw [show(d:Int)-48=((d-48:Nat):Int)by omega]
 exact wrap_u8n (by omega)
theorem readS_s:Sound Tryz.prog 110 mRead:=by
 refine Sound.mdl Tryz.func110 rfl Tryz.ntmps110 ?_
 rintro s w hs
 refine⟨by simp,?_⟩
 replace hs:s.size≤9223372036854775807:=hs
 have hΓ:=env_cons (hsO Tryz.func41) decZS_s env_nil
 have hl:=bl_len s
 refine zJ ?_
 refine W.loopA (fun x:Nat×Nat×Nat=>((bl s).take x.1).foldl fS (0,0)=(x.2.1,x.2.2)∧x.1≤(bl s).length∧x.1≤11) (fun x=>[.slot 0 (vS s),.slot 4 (vI (x.2.1:Int)),.slot 5 (vI (x.2.2:Int)),.slot 6 (vI (x.1:Int))]) (fun x=>11-x.1) (0,0,0) ⟨rfl,Nat.zero_le _,Nat.zero_le _⟩ (h:=?_)
 rintro⟨i,a,k⟩ ⟨hf,hi,hi11⟩
 dsimp only at hf hi hi11⊢
 have hbd:=fS_lt ((bl s).take i) (0,0) (by decide)
 rw [hf,List.length_take]at hbd
 dsimp only at hbd
 have hk11:k≤11:=by omega
 have ha11:a≤100000000000:=by have:=pow_le11 hk11;omega
 by_cases hlt:i<s.size∧i<11
 ·obtain⟨hlt,hlt11⟩:=hlt
  have hib:i<(bl s).length:=by omega
  obtain⟨b,hb1,hb2⟩:=bl_at hib
  have hstep:((bl s).take (i+1)).foldl fS (0,0)=fS (a,k) b.toNat:=by
   rw [List.take_succ_eq_append_getElem hib,List.foldl_append,hf,hb2]
   rfl
  have hb256:b.toNat<256:=b.toNat_lt
  clear hf hb2 hbd
  generalize hd:b.toNat=d at*
  unfold fS at hstep
  by_cases h1:48≤d
  ·by_cases h2:d≤57
   ·rw [if_pos ⟨h1,h2⟩]at hstep
    have hw:=wrap_sub h1 hb256
    have e:(a:Int)*10+((d-48:Nat):Int)=((a*10+(d-48):Nat):Int):=by omega
    refine zR ?_
    exact At.roundA (i+1,a*10+(d-48),k+1) ⟨hstep,by dsimp only;omega,by dsimp only;omega⟩ (by dsimp only;omega)
   ·rw [if_neg (fun h=>h2 h.2)]at hstep
    refine zR ?_
    exact At.roundA (i+1,a,k) ⟨hstep,by dsimp only;omega,by dsimp only;omega⟩ (by dsimp only;omega)
  ·rw [if_neg (fun h=>h1 h.1)]at hstep
   refine zR ?_
   exact At.roundA (i+1,a,k) ⟨hstep,by dsimp only;omega,by dsimp only;omega⟩ (by dsimp only;omega)
 ·have hq:((bl s).take 11).foldl fS (0,0)=(a,k):=by
   by_cases hil:i<11
   ·have:i=(bl s).length:=by omega
    rw [List.take_of_length_le (by omega)]
    rw [List.take_of_length_le (by omega)]at hf
    exact hf
   ·have:i=11:=by omega
    rw [←this]
    exact hf
  have hno:=rdS_no hq
  have hyes:∀n,okDecZ n→bsS (decZ n)=s→readZ s=(n,true):=fun n=>readZ_yes
  have hneg:(0:Int)-(a:Int)= -(a:Int):=by omega
  have hk9:k≤9→a≤999999999:=fun h=>by have:=pow_le9 h;omega
  clear hq hf hbd
  refine(fun(key:W Tryz.prog none0 w 61 [.slot 0 (vS s),.slot 4 (vI (a:Int)),.slot 5 (vI (k:Int))] ?codeK ?postK)=>?main) ?part
  case main=>
   by_cases hil:i<s.size
   ·have h11:¬i<11:=fun h=>hlt ⟨hil,h⟩
    refine zR ?_
    refine W.subA [.slot 0 (vS s),.slot 4 (vI (a:Int)),.slot 5 (vI (k:Int))] (h:=?_)
    exact key
   ·refine zR ?_
    refine W.subA [.slot 0 (vS s),.slot 4 (vI (a:Int)),.slot 5 (vI (k:Int))] (h:=?_)
    exact key
  clear hlt hi hi11
  by_cases hs0:0<s.size
  ·obtain⟨b,hb1,hb2⟩:=bl_at (s:=s) (i:=0) (by omega)
   have hsg:=sgn_at (s:=s) (by omega)
   rw [←hb2]at hsg
   clear hb2
   generalize hd:b.toNat=d at*
   by_cases h45:d=45
   ·rw [decide_eq_true h45]at hsg
    by_cases hk:9<k
    ·have hres:=hno (.inl hk)
     clear hno hyes hk9
     refine zR ?_
     refine At.retA (by rw [Tryz.results110]) (he:=?_)
     rw [hres]
    ·replace hk9:=hk9 (by omega)
     by_cases hsz:10<s.size
     ·have hres:=hno (.inr (.inl hsz))
      clear hno hyes
      refine zR ?_
      refine At.retA (by rw [Tryz.results110]) (he:=?_)
      rw [hres]
     ·have c:=mDecZ_eq (-(a:Int)) ⟨by omega,by omega⟩
      by_cases he:bsS (decZ (-(a:Int)))=s
      ·have hres:=hyes (-(a:Int)) ⟨by omega,by omega⟩ he
       clear hno hyes
       refine zR ?_
       refine At.retA (by rw [Tryz.results110]) (he:=?_)
       rw [hres]
      ·have hres:=hno (.inr (.inr fun n _ hn h=>he (by rw [hn,hsg]at h;simpa using h)))
       clear hno hyes
       refine zR ?_
       refine At.retA (by rw [Tryz.results110]) (he:=?_)
       rw [hres]
   ·rw [decide_eq_false h45]at hsg
    have h45i:¬(d:Int)=45:=by omega
    by_cases hk:9<k
    ·have hres:=hno (.inl hk)
     clear hno hyes hk9
     refine zR ?_
     refine At.retA (by rw [Tryz.results110]) (he:=?_)
     rw [hres]
    ·replace hk9:=hk9 (by omega)
     by_cases hsz:10<s.size
     ·have hres:=hno (.inr (.inl hsz))
      clear hno hyes
      refine zR ?_
      refine At.retA (by rw [Tryz.results110]) (he:=?_)
      rw [hres]
     ·have c:=mDecZ_eq ((a:Int)) ⟨by omega,by omega⟩
      by_cases he:bsS (decZ ((a:Int)))=s
      ·have hres:=hyes ((a:Int)) ⟨by omega,by omega⟩ he
       clear hno hyes
       refine zR ?_
       refine At.retA (by rw [Tryz.results110]) (he:=?_)
       rw [hres]
      ·have hres:=hno (.inr (.inr fun n _ hn h=>he (by rw [hn,hsg]at h;simpa using h)))
       clear hno hyes
       refine zR ?_
       refine At.retA (by rw [Tryz.results110]) (he:=?_)
       rw [hres]
  ·have hsg:=sgn_nil (s:=s) (by omega)
   by_cases hk:9<k
   ·have hres:=hno (.inl hk)
    clear hno hyes hk9
    refine zR ?_
    refine At.retA (by rw [Tryz.results110]) (he:=?_)
    rw [hres]
   ·replace hk9:=hk9 (by omega)
    by_cases hsz:10<s.size
    ·omega
    ·have c:=mDecZ_eq ((a:Int)) ⟨by omega,by omega⟩
     by_cases he:bsS (decZ ((a:Int)))=s
     ·have hres:=hyes ((a:Int)) ⟨by omega,by omega⟩ he
      clear hno hyes
      refine zR ?_
      refine At.retA (by rw [Tryz.results110]) (he:=?_)
      rw [hres]
     ·have hres:=hno (.inr (.inr fun n _ hn h=>he (by rw [hn,hsg]at h;simpa using h)))
      clear hno hyes
      refine zR ?_
      refine At.retA (by rw [Tryz.results110]) (he:=?_)
      rw [hres]
theorem rdI_no {s:ByteArray}(h:∀n,okDecZ n→(∀d∈dgs (bl s),isDg d)→(dgs (bl s)).length≤9→0<(dgs (bl s)).length→n=(if sgn (bl s)then-((valD 0 (dgs (bl s)):Nat):Int)else((valD 0 (dgs (bl s)):Nat):Int))→bsS (decZ n)=s→False):readZ s=(0,false):=by
 refine readZ_no fun n h1 h2 h3=>?_
 obtain⟨p1,p2,p3,p4⟩:=decZ_sval h1
 rw [←h2]at p1 p2 p3 p4
 exact h n h1 p1 p2 p3 p4.symm h3
theorem dgs_pos {s:ByteArray}(h:sgn (bl s)=false):dgs (bl s)=bl s:=by unfold dgs;rw [h];rfl
theorem dgs_neg {s:ByteArray}(h:sgn (bl s)=true):dgs (bl s)=(bl s).tail:=by unfold dgs;rw [h];rfl
theorem readI_s:Sound Tryz.prog 99 mRead:=by
 refine Sound.mdl Tryz.func99 rfl Tryz.ntmps99 ?_
 rintro s w hs
 refine⟨by simp,?_⟩
 replace hs:s.size≤9223372036854775807:=hs
 have hΓ:=env_cons (hsO Tryz.func101) decZI_s (env_cons (hsO Tryz.func139) within_s env_nil)
 have hl:=bl_len s
 have hno:=rdI_no (s:=s)
 have hyes:∀n,okDecZ n→bsS (decZ n)=s→readZ s=(n,true):=fun n=>readZ_yes
 by_cases hs0:0<s.size
 ·obtain⟨b,hb1,hb2⟩:=bl_at (s:=s) (i:=0) (by omega)
  have hsg:=sgn_at (s:=s) (by omega)
  rw [←hb2]at hsg
  clear hb2
  generalize hd0:b.toNat=d0 at*
  by_cases h45:d0=45
  ·rw [decide_eq_true h45]at hsg
   have hdg:=dgs_neg hsg
   have hDl:(dgs (bl s)).length=s.size-1:=by rw [hdg,List.length_tail];omega
   have hDx:∀j,(hj:j<(dgs (bl s)).length)→∃b:UInt8,s.data.toList[j+1]?=some b∧b.toNat=(dgs (bl s))[j]:=fun j hj=>by
    obtain⟨b,h1,h2⟩:=bl_at (s:=s) (i:=j+1) (by omega)
    refine⟨b,h1,h2.trans ?_⟩
    simp only [hdg,List.getElem_tail]
   rw [hsg]at hno
   by_cases hlen:1≤s.size-1∧s.size-1≤9
   ·have c:=mWithin_eq ((s.size:Int)-1) 1 9
    rw [decide_eq_true (by omega)]at c
    clear hdg
    generalize dgs (bl s)=D at*
    refine zJ ?_
    refine W.loopA (fun x:Nat×Nat=>valD 0 (D.take x.1)=x.2∧x.1≤D.length∧∀d∈D.take x.1,isDg d) (fun x=>[.slot 0 (vS s),.slot 4 (vI 1),.slot 5 (vI (x.2:Int)),.slot 6 (vI ((x.1+1:Nat):Int))]) (fun x=>D.length-x.1) (0,0) ⟨rfl,Nat.zero_le _,fun d hd=>by simp at hd⟩ (h:=?_)
    rintro⟨j,a⟩ ⟨hv,hj,hdg⟩
    dsimp only at hv hj hdg⊢
    have ha:=valD_lt (D.take j) 0 hdg
    rw [hv,List.length_take]at ha
    have ha9:a≤999999999:=by have:=pow_le9 (k:=min j D.length) (by omega);omega
    clear ha
    by_cases hjl:j<D.length
    ·obtain⟨b,hb1,hb2⟩:=hDx j hjl
     have hb256:b.toNat<256:=b.toNat_lt
     have hsn:=valD_snoc 0 (D.take j) D[j]
     rw [hv,←List.take_succ_eq_append_getElem hjl]at hsn
     have hnx:isDg D[j]→∀d∈D.take (j+1),isDg d:=fun h d hd=>by
      rw [List.take_succ_eq_append_getElem hjl]at hd
      rcases List.mem_append.1 hd with hd|hd
      ·exact hdg d hd
      ·rw [List.mem_singleton.1 hd];exact h
     have hbad:¬isDg D[j]→readZ s=(0,false):=fun h=>hno fun n _ h1 _ _ _ _=>h (h1 _ (List.getElem_mem hjl))
     rw [←hb2]at hsn hnx hbad
     clear hno hyes hv hdg hb2 hDx
     generalize hd:b.toNat=d at*
     by_cases h1:48≤d
     ·by_cases h2:d≤57
      ·have hw:=wrap_sub h1 hb256
       have e:10*(a:Int)+((d-48:Nat):Int)=((a*10+(d-48):Nat):Int):=by omega
       have hnx:=hnx ⟨h1,h2⟩
       clear hbad
       refine zR ?_
       exact At.roundA (j+1,a*10+(d-48)) ⟨hsn,by dsimp only;omega,hnx⟩ (by dsimp only;omega)
      ·have hres:=hbad (fun h=>h2 h.2)
       clear hbad hnx
       refine zR ?_
       refine At.retA (by rw [Tryz.results99]) (he:=?_)
       rw [hres]
     ·have hres:=hbad (fun h=>h1 h.1)
      clear hbad hnx
      refine zR ?_
      refine At.retA (by rw [Tryz.results99]) (he:=?_)
      rw [hres]
    ·have hjl2:D.length≤j:=by omega
     rw [List.take_of_length_le hjl2]at hv
     have hneg:(0:Int)-(a:Int)= -(a:Int):=by omega
     have c2:=mDecZ_eq (-((a:Nat):Int)) ⟨by omega,by omega⟩
     by_cases he:bsS (decZ (-((a:Nat):Int)))=s
     ·have hres:=hyes (-((a:Nat):Int)) ⟨by omega,by omega⟩ he
      clear hno hyes hDx hv hdg
      refine zR ?_
      refine At.retA (by rw [Tryz.results99]) (he:=?_)
      rw [hres]
     ·have hres:=hno fun n _ _ _ _ hn h=>he (by rw [hn,hv]at h;simpa using h)
      clear hno hyes hDx hv hdg
      refine zR ?_
      refine At.retA (by rw [Tryz.results99]) (he:=?_)
      rw [hres]
   ·have c:=mWithin_eq ((s.size:Int)-1) 1 9
    rw [decide_eq_false (by omega)]at c
    have hres:=hno fun n _ _ h1 h2 _ _=>hlen (by omega)
    clear hno hyes hDx hdg
    refine zJ ?_
    refine At.retA (by rw [Tryz.results99]) (he:=?_)
    rw [hres]
  ·rw [decide_eq_false h45]at hsg
   have h45i:¬(d0:Int)=45:=by omega
   have hdg:=dgs_pos hsg
   have hDl:(dgs (bl s)).length=s.size-0:=by rw [hdg];omega
   have hDx:∀j,(hj:j<(dgs (bl s)).length)→∃b:UInt8,s.data.toList[j]?=some b∧b.toNat=(dgs (bl s))[j]:=fun j hj=>by
    obtain⟨b,h1,h2⟩:=bl_at (s:=s) (i:=j) (by omega)
    refine⟨b,h1,h2.trans ?_⟩
    simp only [hdg]
   rw [hsg]at hno
   by_cases hlen:1≤s.size-0∧s.size-0≤9
   ·have c:=mWithin_eq ((s.size:Int)-0) 1 9
    rw [decide_eq_true (by omega)]at c
    clear hdg
    generalize dgs (bl s)=D at*
    refine zJ ?_
    refine W.loopA (fun x:Nat×Nat=>valD 0 (D.take x.1)=x.2∧x.1≤D.length∧∀d∈D.take x.1,isDg d) (fun x=>[.slot 0 (vS s),.slot 4 (vI 0),.slot 5 (vI (x.2:Int)),.slot 6 (vI ((x.1:Nat):Int))]) (fun x=>D.length-x.1) (0,0) ⟨rfl,Nat.zero_le _,fun d hd=>by simp at hd⟩ (h:=?_)
    rintro⟨j,a⟩ ⟨hv,hj,hdg⟩
    dsimp only at hv hj hdg⊢
    have ha:=valD_lt (D.take j) 0 hdg
    rw [hv,List.length_take]at ha
    have ha9:a≤999999999:=by have:=pow_le9 (k:=min j D.length) (by omega);omega
    clear ha
    by_cases hjl:j<D.length
    ·obtain⟨b,hb1,hb2⟩:=hDx j hjl
     have hb256:b.toNat<256:=b.toNat_lt
     have hsn:=valD_snoc 0 (D.take j) D[j]
     rw [hv,←List.take_succ_eq_append_getElem hjl]at hsn
     have hnx:isDg D[j]→∀d∈D.take (j+1),isDg d:=fun h d hd=>by
      rw [List.take_succ_eq_append_getElem hjl]at hd
      rcases List.mem_append.1 hd with hd|hd
      ·exact hdg d hd
      ·rw [List.mem_singleton.1 hd];exact h
     have hbad:¬isDg D[j]→readZ s=(0,false):=fun h=>hno fun n _ h1 _ _ _ _=>h (h1 _ (List.getElem_mem hjl))
     rw [←hb2]at hsn hnx hbad
     clear hno hyes hv hdg hb2 hDx
     generalize hd:b.toNat=d at*
     by_cases h1:48≤d
     ·by_cases h2:d≤57
      ·have hw:=wrap_sub h1 hb256
       have e:10*(a:Int)+((d-48:Nat):Int)=((a*10+(d-48):Nat):Int):=by omega
       have hnx:=hnx ⟨h1,h2⟩
       clear hbad
       refine zR ?_
       exact At.roundA (j+1,a*10+(d-48)) ⟨hsn,by dsimp only;omega,hnx⟩ (by dsimp only;omega)
      ·have hres:=hbad (fun h=>h2 h.2)
       clear hbad hnx
       refine zR ?_
       refine At.retA (by rw [Tryz.results99]) (he:=?_)
       rw [hres]
     ·have hres:=hbad (fun h=>h1 h.1)
      clear hbad hnx
      refine zR ?_
      refine At.retA (by rw [Tryz.results99]) (he:=?_)
      rw [hres]
    ·have hjl2:D.length≤j:=by omega
     rw [List.take_of_length_le hjl2]at hv
     have hneg:(0:Int)-(a:Int)= -(a:Int):=by omega
     have c2:=mDecZ_eq (((a:Nat):Int)) ⟨by omega,by omega⟩
     by_cases he:bsS (decZ (((a:Nat):Int)))=s
     ·have hres:=hyes (((a:Nat):Int)) ⟨by omega,by omega⟩ he
      clear hno hyes hDx hv hdg
      refine zR ?_
      refine At.retA (by rw [Tryz.results99]) (he:=?_)
      rw [hres]
     ·have hres:=hno fun n _ _ _ _ hn h=>he (by rw [hn,hv]at h;simpa using h)
      clear hno hyes hDx hv hdg
      refine zR ?_
      refine At.retA (by rw [Tryz.results99]) (he:=?_)
      rw [hres]
   ·have c:=mWithin_eq ((s.size:Int)-0) 1 9
    rw [decide_eq_false (by omega)]at c
    have hres:=hno fun n _ _ h1 h2 _ _=>hlen (by omega)
    clear hno hyes hDx hdg
    refine zJ ?_
    refine At.retA (by rw [Tryz.results99]) (he:=?_)
    rw [hres]
 ·have hsg:=sgn_nil (s:=s) (by omega)
  have hdg:=dgs_pos hsg
  have hDl:(dgs (bl s)).length=s.size:=by rw [hdg];omega
  have c:=mWithin_eq ((s.size:Int)-0) 1 9
  rw [decide_eq_false (by omega)]at c
  have hres:=hno fun n _ _ _ h2 _ _=>by omega
  clear hno hyes hdg
  refine zJ ?_
  refine At.retA (by rw [Tryz.results99]) (he:=?_)
  rw [hres]
end
end Go.Proofs.YtfgkfcfplodaoaaGreatDoor
