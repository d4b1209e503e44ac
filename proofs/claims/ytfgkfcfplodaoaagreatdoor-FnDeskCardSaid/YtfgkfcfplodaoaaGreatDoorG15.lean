/-
  Put together out of 2 texts.
-/
import Derived.Test.YtfgkfcfplodaoaaGreatDoorG14
set_option linter.unusedSimpArgs false
set_option linter.unusedVariables false
set_option maxRecDepth 100000
set_option maxHeartbeats 8000000
namespace Go.Proofs.YtfgkfcfplodaoaaGreatDoor
open Go Go.RowKit
section
def cN (n:Nat):List Value:=[.int .i64 (n:Int)]
theorem rowN {l:List Nat}{k v:Nat}(h:l[k]?=some v):(rowsF cN l)[k]?=some [.sc (.int .i64 (v:Int))]:=by
 unfold rowsF
 rw [List.getElem?_map,h]
 rfl
theorem rowN_set (l:List Nat)(k v:Nat):(rowsF cN l).set k [.sc (.int .i64 (v:Int))]=rowsF cN (l.set k v):=rowsF_set cN l k v
theorem mem_old (s:ByteArray){k:Nat}(h:k<64):(mem s k)[k]?=some 0:=by
 unfold mem
 rw [List.getElem?_append_right (by rw [sch_len];exact Nat.le_refl _),sch_len,Nat.sub_self,List.getElem?_replicate,if_pos (by omega)]
theorem wAt_eq (s:ByteArray)(k:Nat):wAt s k=((byteN s (4*k)*2^24|||byteN s (4*k+1)*2^16)|||byteN s (4*k+2)*2^8)|||byteN s (4*k+3):=rfl
theorem cast4 (a b c d:Nat):(a:Int)+b+c+d=((a+b+c+d:Nat):Int):=by simp
abbrev okB (x:W8×ByteArray):Prop:=x.1.ok∧x.2.size=64
theorem shaK_lt (k:Nat):shaK k<4294967296:=by
 unfold shaK
 by_cases h:k<shaW.length
 ·rw [List.getD_eq_getElem?_getD,gsE h]
  have:∀x∈shaW,x<4294967296:=by decide
  exact this _ (List.getElem_mem h)
 ·rw [List.getD_eq_getElem?_getD,List.getElem?_eq_none (by omega)]
  simp
def asEvShaS2:List (List Nat):=[[],[],[1],[0,1,2],[0,1,2,3],[0,1,2,3,4],[],[],[7],[6,7,8],[6,7,8,9],[0,1,2,3,4,5,6,7,8,9,10],[0,1,2,3,4,5,6,7,8,9,10,11],[],[],[14],[13,14,15],[13,14,15,16],[13,14,15,16,17],[0,1,2,3,4,5,6,7,8,9,10,11,12,13,14,15,16,17,18],[0,1,2,3,4,5,6,7,8,9,10,11,12,13,14,15,16,17,18,19]]
theorem blockS_s:Sound Tryz.prog 94 (mdl okB (fun x=>[aL cN x.1.lst,aS x.2,aL cN shaW]) fun x=>rL 3 1 cN (block x.1 x.2).lst):=by
 refine Sound.mdl Tryz.func94 rfl Tryz.ntmps94 ?_
 rintro⟨h,s⟩ w ⟨hok,hs⟩
 refine⟨by simp,?_⟩
 dsimp only at hok hs
 have hΓ:=env_cons (hsO Tryz.func136) l3Right_s (env_cons (hsO Tryz.func137) l3Word_s env_nil)
 refine zI ?_
 have hz:List.replicate 64 [Leaf.sc (.int .i64 0)]=rowsF cN (mem s 0):=by rw [mem_zero];rfl
 refine zR ?_
 refine W.loopA (fun k=>k≤16) (fun k:Nat=>[.slot 8 (vI k),.slot 7 (one (.all 20)),.slot 0 (vL cN h.lst),.slot 1 (vS s),.slot 2 (vL cN shaW),.blk 20 (.arr .ft 3 1 (rowsF cN (mem s k)))]) (fun k=>16-k) 0 (Nat.zero_le _) (h:=?_)
 clear hz
 rintro k hk
 have hml:(rowsF cN (mem s k)).length=64:=by rw [rowsF_len,mem_len s (by omega)]
 by_cases hlt:k<16
 ·have e0:(4*(k:Int)).toNat=4*k:=by omega
  have e1:(4*(k:Int)+1).toNat=4*k+1:=by omega
  have e2:(4*(k:Int)+2).toNat=4*k+2:=by omega
  have e3:(4*(k:Int)+3).toNat=4*k+3:=by omega
  have i0:=byte_at (s:=s) (i:=4*k) (by omega)
  have i1:=byte_at (s:=s) (i:=4*k+1) (by omega)
  have i2:=byte_at (s:=s) (i:=4*k+2) (by omega)
  have i3:=byte_at (s:=s) (i:=4*k+3) (by omega)
  have hN:=byteN_eq s
  have b0:=byteN_lt s (4*k)
  have b1:=byteN_lt s (4*k+1)
  have b2:=byteN_lt s (4*k+2)
  have b3:=byteN_lt s (4*k+3)
  have hold:=rowN (mem_old s (k:=k) (by omega))
  have hset:=rowN_set (mem s k) k (wAt s k)
  rw [mem_set s (by omega) (sch_lo s hlt),wAt_eq]at hset
  have m1:min 24 IntKind.i64.bits=24:=rfl
  have m2:min 16 IntKind.i64.bits=16:=rfl
  have m3:min 8 IntKind.i64.bits=8:=rfl
  have q0:(byteU s (4*k)).toNat=byteN s (4*k):=rfl
  have q1:(byteU s (4*k+1)).toNat=byteN s (4*k+1):=rfl
  have q2:(byteU s (4*k+2)).toNat=byteN s (4*k+2):=rfl
  have q3:(byteU s (4*k+3)).toNat=byteN s (4*k+3):=rfl
  clear hN
  generalize byteN s (4*k)=B0 at*
  generalize byteN s (4*k+1)=B1 at*
  generalize byteN s (4*k+2)=B2 at*
  generalize byteN s (4*k+3)=B3 at*
  have t0:ar .i64 ((B0:Int)*2^24)=some (.int .i64 ((B0*2^24:Nat):Int)):=by rw [mul_pow_nat];exact ar_in (by omega) (by omega)
  have t1:ar .i64 ((B1:Int)*2^16)=some (.int .i64 ((B1*2^16:Nat):Int)):=by rw [mul_pow_nat];exact ar_in (by omega) (by omega)
  have t2:ar .i64 ((B2:Int)*2^8)=some (.int .i64 ((B2*2^8:Nat):Int)):=by rw [mul_pow_nat];exact ar_in (by omega) (by omega)
  have o1:=or_i64 (a:=B0*2^24) (b:=B1*2^16) (by omega) (by omega)
  have l1:=Nat.or_lt_two_pow (n:=32) (x:=B0*2^24) (y:=B1*2^16) (by omega) (by omega)
  have o2:=or_i64 (a:=B0*2^24|||B1*2^16) (b:=B2*2^8) (by omega) (by omega)
  have l2:=Nat.or_lt_two_pow (n:=32) (y:=B2*2^8) l1 (by omega)
  have o3:=or_i64 (a:=(B0*2^24|||B1*2^16)|||B2*2^8) (b:=B3) (by omega) (by omega)
  clear l1 l2
  refine zR ?_
  refine W.drawB hΓ 32 [[],[],[],[],[3],[2,3,4],[2,3,4,5],[2,3,4,5,6],[],[],[9],[9,10],[8,9,10,11],[8,9,10,11,12],[8,9,10,11,12,13],[2,3,4,5,6,7,8,9,10,11,12,13,14],[],[],[17],[17,18],[16,17,18,19],[16,17,18,19,20],[16,17,18,19,20,21],[2,3,4,5,6,7,8,9,10,11,12,13,14,15,16,17,18,19,20,21,22],[],[],[25],[25,26],[24,25,26,27],[24,25,26,27,28],[2,3,4,5,6,7,8,9,10,11,12,13,14,15,16,17,18,19,20,21,22,23,24,25,26,27,28,29],[0,1,2,3,4,5,6,7,8,9,10,11,12,13,14,15,16,17,18,19,20,21,22,23,24,25,26,27,28,29,30],[0,1,2,3,4,5,6,7,8,9,10,11,12,13,14,15,16,17,18,19,20,21,22,23,24,25,26,27,28,29,30,31]] (Es:=?Es5) (rest:=?rest5) (st1:=?st15) ?_
  refine zQ ?_
  exact At.roundA (k+1) (by omega) (by omega)
 have hk16:k=16:=by omega
 subst hk16
 clear hk hml
 refine zR ?_
 refine W.loopA (fun k=>16≤k∧k≤64) (fun k:Nat=>[.slot 9 (vI k),.slot 7 (one (.all 20)),.slot 0 (vL cN h.lst),.slot 2 (vL cN shaW),.blk 20 (.arr .ft 3 1 (rowsF cN (mem s k)))]) (fun k=>64-k) 16 ⟨by omega,by omega⟩ (h:=?_)
 rintro k ⟨hk1,hk2⟩
 have hml:(rowsF cN (mem s k)).length=64:=by rw [rowsF_len,mem_len s (by omega)]
 by_cases hlt2:k<64
 ·have g16:=rowN (mem_get s (k:=k) (j:=k-16) (by omega))
  have g15:=rowN (mem_get s (k:=k) (j:=k-15) (by omega))
  have g7:=rowN (mem_get s (k:=k) (j:=k-7) (by omega))
  have g2:=rowN (mem_get s (k:=k) (j:=k-2) (by omega))
  have l16:=schD_lt s k (k-16)
  have l15:=schD_lt s k (k-15)
  have l7:=schD_lt s k (k-7)
  have l2:=schD_lt s k (k-2)
  have hnx:=sch_hi s (k:=k) (by omega)
  have hold:=rowN (mem_old s (k:=k) (by omega))
  generalize (sch s k).getD (k-16) 0=a at g16 l16 hnx
  generalize (sch s k).getD (k-15) 0=b at g15 l15 hnx
  generalize (sch s k).getD (k-7) 0=c at g7 l7 hnx
  generalize (sch s k).getD (k-2) 0=d at g2 l2 hnx
  have hset:=rowN_set (mem s k) k ((a+sig0 b+c+sig1 d)%4294967296)
  rw [mem_set s hlt2 hnx]at hset
  clear hnx
  have e16:((k:Int)-16).toNat=k-16:=by omega
  have e15:((k:Int)-15).toNat=k-15:=by omega
  have e7:((k:Int)-7).toNat=k-7:=by omega
  have e2:((k:Int)-2).toNat=k-2:=by omega
  have r7:mRight [aI (b:Int),.val false [.sc (.int .u64 7)]]=some (rNat (rotr b 7)):=mRight_eq b 7 l15 (by omega) (by omega)
  have r18:mRight [aI (b:Int),.val false [.sc (.int .u64 18)]]=some (rNat (rotr b 18)):=mRight_eq b 18 l15 (by omega) (by omega)
  have r17:mRight [aI (d:Int),.val false [.sc (.int .u64 17)]]=some (rNat (rotr d 17)):=mRight_eq d 17 l2 (by omega) (by omega)
  have r19:mRight [aI (d:Int),.val false [.sc (.int .u64 19)]]=some (rNat (rotr d 19)):=mRight_eq d 19 l2 (by omega) (by omega)
  have m3:min 3 IntKind.i64.bits=3:=rfl
  have m10:min 10 IntKind.i64.bits=10:=rfl
  have f3:=fdiv_nat b 3
  have f10:=fdiv_nat d 10
  have w7:=rotr_lt b 7
  have w18:=rotr_lt b 18
  have w17:=rotr_lt d 17
  have w19:=rotr_lt d 19
  have x1:=xor_i64 (a:=rotr b 7) (b:=rotr b 18) (by omega) (by omega)
  have y1:=Nat.xor_lt_two_pow (n:=32) (x:=rotr b 7) (y:=rotr b 18) w7 w18
  have x2:bits .xor .i64 ((rotr b 7^^^rotr b 18:Nat):Int) ((b/2^3:Nat):Int)=((sig0 b:Nat):Int):=xor_i64 (by omega) (by omega)
  have x3:=xor_i64 (a:=rotr d 17) (b:=rotr d 19) (by omega) (by omega)
  have y3:=Nat.xor_lt_two_pow (n:=32) (x:=rotr d 17) (y:=rotr d 19) w17 w19
  have x4:bits .xor .i64 ((rotr d 17^^^rotr d 19:Nat):Int) ((d/2^10:Nat):Int)=((sig1 d:Nat):Int):=xor_i64 (by omega) (by omega)
  have z0:=sig0_lt l15
  have z1:=sig1_lt l2
  generalize sig0 b=S0 at x2 z0 hset
  generalize sig1 d=S1 at x4 z1 hset
  have hw:mWd [aI ((a:Int)+S0+c+S1)]=some (rNat ((a+S0+c+S1)%4294967296)):=by rw [cast4];exact mWd_eq _ (by omega)
  generalize (a+S0+c+S1)%4294967296=NW at hw hset
  clear y1 y3 w7 w18 w17 w19
  refine zR ?_
  refine W.drawB hΓ 21 asEvShaS2 (Es:=?Es9) (rest:=?rest9) (st1:=?st19) ?_
  refine zQ ?_
  refine W.drawB hΓ 21 asEvShaS2 (Es:=?Es11) (rest:=?rest11) (st1:=?st111) ?_
  refine zQ ?_
  refine W.drawB hΓ 19 [[],[],[],[],[3],[2,3,4],[2,3,4,5],[],[2,3,4,5,6,7],[],[],[10],[9,10,11],[9,10,11,12],[2,3,4,5,6,7,8,9,10,11,12,13],[],[2,3,4,5,6,7,8,9,10,11,12,13,14,15],[2,3,4,5,6,7,8,9,10,11,12,13,14,15,16],[0,1,2,3,4,5,6,7,8,9,10,11,12,13,14,15,16,17],[0,1,2,3,4,5,6,7,8,9,10,11,12,13,14,15,16,17,18]] (Es:=?Es13) (rest:=?rest13) (st1:=?st113) ?_
  refine zQ ?_
  exact At.roundA (k+1) ⟨by omega,by omega⟩ (by omega)
 have hk64:k=64:=by omega
 subst hk64
 clear hk1 hk2 hlt
 have hnil:([]:List (List Leaf))++rowsF cN h.lst=rowsF cN h.lst:=rfl
 have hhl:(rowsF cN h.lst).length=8:=rfl
 have hlst:h.lst.length=8:=rfl
 refine zR ?_
 refine W.frzA 12 120 (h:=?_)
 refine W.loopA (fun k=>k≤64) (fun k:Nat=>[.slot 13 (vI k),.slot 12 (one (.sl (rowsF cN (rnds s h k).lst))),.slot 7 (one (.all 20)),.slot 0 (vL cN h.lst),.slot 2 (vL cN shaW),.blk 20 (.arr .ft 3 1 (rowsF cN (mem s 64)))]) (fun k=>64-k) 0 (Nat.zero_le _) (h:=?_)
 rintro k hk
 by_cases hlt3:k<64
 ·obtain⟨⟨ba,bb,bc,bd⟩,be,bf,bg,bh⟩:=rnds_ok s hok k
  have hK:shaW[k]?=some (shaK k):=by unfold shaK;rw [List.getD_eq_getElem?_getD,gsE (show k<shaW.length from hlt3)];rfl
  have hKl:=shaK_lt k
  have hKn:(rowsF cN shaW).length=64:=rfl
  have hml:(rowsF cN (mem s 64)).length=64:=by rw [rowsF_len,mem_len s (by omega)]
  replace hK:=rowN hK
  have hW:=rowN (mem_get s (k:=64) (j:=k) hlt3)
  have hWl:=schD_lt s 64 k
  have nxt:rnds s h (k+1)=rnd (rnds s h k) (shaK k+(sch s 64).getD k 0):=rfl
  generalize rnds s h k=v at*
  generalize shaK k=K at hK hKl nxt
  generalize (sch s 64).getD k 0=Wk at hW hWl nxt
  obtain⟨a,b,c,d,e,f,g,q⟩:=v
  dsimp only at ba bb bc bd be bf bg bh
  have v0:(rowsF cN (W8.lst ⟨a,b,c,d,e,f,g,q⟩))[0]?=some [.sc (.int .i64 (a:Int))]:=rfl
  have v1:(rowsF cN (W8.lst ⟨a,b,c,d,e,f,g,q⟩))[1]?=some [.sc (.int .i64 (b:Int))]:=rfl
  have v2:(rowsF cN (W8.lst ⟨a,b,c,d,e,f,g,q⟩))[2]?=some [.sc (.int .i64 (c:Int))]:=rfl
  have v3:(rowsF cN (W8.lst ⟨a,b,c,d,e,f,g,q⟩))[3]?=some [.sc (.int .i64 (d:Int))]:=rfl
  have v4:(rowsF cN (W8.lst ⟨a,b,c,d,e,f,g,q⟩))[4]?=some [.sc (.int .i64 (e:Int))]:=rfl
  have v5:(rowsF cN (W8.lst ⟨a,b,c,d,e,f,g,q⟩))[5]?=some [.sc (.int .i64 (f:Int))]:=rfl
  have v6:(rowsF cN (W8.lst ⟨a,b,c,d,e,f,g,q⟩))[6]?=some [.sc (.int .i64 (g:Int))]:=rfl
  have v7:(rowsF cN (W8.lst ⟨a,b,c,d,e,f,g,q⟩))[7]?=some [.sc (.int .i64 (q:Int))]:=rfl
  have vn:(rowsF cN (W8.lst ⟨a,b,c,d,e,f,g,q⟩)).length=8:=rfl
  generalize rowsF cN (W8.lst ⟨a,b,c,d,e,f,g,q⟩)=V at*
  have r6:mRight [aI (e:Int),.val false [.sc (.int .u64 6)]]=some (rNat (rotr e 6)):=mRight_eq e 6 be (by omega) (by omega)
  have r11:mRight [aI (e:Int),.val false [.sc (.int .u64 11)]]=some (rNat (rotr e 11)):=mRight_eq e 11 be (by omega) (by omega)
  have r25:mRight [aI (e:Int),.val false [.sc (.int .u64 25)]]=some (rNat (rotr e 25)):=mRight_eq e 25 be (by omega) (by omega)
  have r2:mRight [aI (a:Int),.val false [.sc (.int .u64 2)]]=some (rNat (rotr a 2)):=mRight_eq a 2 ba (by omega) (by omega)
  have r13:mRight [aI (a:Int),.val false [.sc (.int .u64 13)]]=some (rNat (rotr a 13)):=mRight_eq a 13 ba (by omega) (by omega)
  have r22:mRight [aI (a:Int),.val false [.sc (.int .u64 22)]]=some (rNat (rotr a 22)):=mRight_eq a 22 ba (by omega) (by omega)
  have w6:=rotr_lt e 6
  have w11:=rotr_lt e 11
  have w25:=rotr_lt e 25
  have w2:=rotr_lt a 2
  have w13:=rotr_lt a 13
  have w22:=rotr_lt a 22
  have y1:=Nat.xor_lt_two_pow (n:=32) (x:=rotr e 6) (y:=rotr e 11) w6 w11
  have y2:=Nat.xor_lt_two_pow (n:=32) (x:=rotr a 2) (y:=rotr a 13) w2 w13
  have y3:big1 e<2^32:=Nat.xor_lt_two_pow (n:=32) y1 w25
  have y4:big0 a<2^32:=Nat.xor_lt_two_pow (n:=32) y2 w22
  have x1:=xor_i64 (a:=rotr e 6) (b:=rotr e 11) (by omega) (by omega)
  have x2:bits .xor .i64 ((rotr e 6^^^rotr e 11:Nat):Int) ((rotr e 25:Nat):Int)=((big1 e:Nat):Int):=xor_i64 (by omega) (by omega)
  have x3:=xor_i64 (a:=rotr a 2) (b:=rotr a 13) (by omega) (by omega)
  have x4:bits .xor .i64 ((rotr a 2^^^rotr a 13:Nat):Int) ((rotr a 22:Nat):Int)=((big0 a:Nat):Int):=xor_i64 (by omega) (by omega)
  have n1:=not_i64 be
  have n2:=mWd_neg be
  have hn:=Nat.xor_lt_two_pow (n:=32) (x:=4294967295) (y:=e) (by omega) be
  have a1:=and_i64 (a:=e) (b:=f) (by omega) (by omega)
  have a2:=and_i64 (a:=4294967295^^^e) (b:=g) (by omega) (by omega)
  have p1:=Nat.and_lt_two_pow (n:=32) e bf
  have p2:=Nat.and_lt_two_pow (n:=32) (4294967295^^^e) bg
  have x5:bits .xor .i64 ((e&&&f:Nat):Int) (((4294967295^^^e)&&&g:Nat):Int)=((chs e f g:Nat):Int):=xor_i64 (by omega) (by omega)
  have y5:chs e f g<2^32:=Nat.xor_lt_two_pow (n:=32) p1 p2
  have a3:=and_i64 (a:=a) (b:=b) (by omega) (by omega)
  have a4:=and_i64 (a:=a) (b:=c) (by omega) (by omega)
  have a5:=and_i64 (a:=b) (b:=c) (by omega) (by omega)
  have p3:=Nat.and_lt_two_pow (n:=32) a bb
  have p4:=Nat.and_lt_two_pow (n:=32) a bc
  have p5:=Nat.and_lt_two_pow (n:=32) b bc
  have p6:=Nat.xor_lt_two_pow (n:=32) p3 p4
  have x6:=xor_i64 (a:=a&&&b) (b:=a&&&c) (by omega) (by omega)
  have x7:bits .xor .i64 (((a&&&b)^^^(a&&&c):Nat):Int) ((b&&&c:Nat):Int)=((maj a b c:Nat):Int):=xor_i64 (by omega) (by omega)
  have y6:maj a b c<2^32:=Nat.xor_lt_two_pow (n:=32) p6 p5
  clear y1 y2 hn p1 p2 p3 p4 p5 p6 w6 w11 w25 w2 w13 w22
  have hR:rowsF cN (rnds s h (k+1)).lst=[[.sc (.int .i64 (((q+big1 e+chs e f g+K+Wk+(big0 a+maj a b c))%4294967296:Nat):Int))],[.sc (.int .i64 (a:Int))],[.sc (.int .i64 (b:Int))],[.sc (.int .i64 (c:Int))],
    [.sc (.int .i64 (((d+(q+big1 e+chs e f g+K+Wk))%4294967296:Nat):Int))],[.sc (.int .i64 (e:Int))],[.sc (.int .i64 (f:Int))],[.sc (.int .i64 (g:Int))]]:=by
   rw [nxt]
   have e1:q+big1 e+chs e f g+(K+Wk)+(big0 a+maj a b c)=q+big1 e+chs e f g+K+Wk+(big0 a+maj a b c):=by omega
   have e2:d+(q+big1 e+chs e f g+(K+Wk))=d+(q+big1 e+chs e f g+K+Wk):=by omega
   simp only [rnd,W8.lst,e1,e2]
   rfl
  clear nxt
  generalize big1 e=S1 at*
  generalize big0 a=S0 at*
  generalize chs e f g=C at*
  generalize maj a b c=M at*
  have u1:mWd [aI ((q:Int)+S1+C+K+Wk+((S0:Int)+M))]=some (rNat ((q+S1+C+K+Wk+(S0+M))%4294967296)):=by
   rw [show(q:Int)+S1+C+K+Wk+((S0:Int)+M)=((q+S1+C+K+Wk+(S0+M):Nat):Int)by simp]
   exact mWd_eq _ (by omega)
  have u2:mWd [aI ((d:Int)+((q:Int)+S1+C+K+Wk))]=some (rNat ((d+(q+S1+C+K+Wk))%4294967296)):=by
   rw [show(d:Int)+((q:Int)+S1+C+K+Wk)=((d+(q+S1+C+K+Wk):Nat):Int)by simp]
   exact mWd_eq _ (by omega)
  generalize (q+S1+C+K+Wk+(S0+M))%4294967296=NA at u1 hR
  generalize (d+(q+S1+C+K+Wk))%4294967296=NE at u2 hR
  refine zR ?_
  refine W.drawB hΓ 37 [[],[0],[0,1],[],[3],[],[3,4,5],[3,4,5,6],[],[3,4,5,6,8],[3,4,5,6,7,8,9],[0,1,2,3,4,5,6,7,8,9,10],[],[],[13],[13,14],[12,13,14,15],[],[17],[3,4,5,6,8,9,17,18],[],[20],[20,21],[3,4,5,6,8,9,17,18,19,20,21,22],[3,4,5,6,8,9,12,13,14,15,16,17,18,19,20,21,22,23],[0,1,2,3,4,5,6,7,8,9,10,11,12,13,14,15,16,17,18,19,20,21,22,23,24],[],[],[26,27],[26,27,28],[0,1,2,3,4,5,6,7,8,9,10,11,12,13,14,15,16,17,18,19,20,21,22,23,24,25,26,27,28,29],[],[],[31,32],[31,32,33],[0,1,2,3,4,5,6,7,8,9,10,11,12,13,14,15,16,17,18,19,20,21,22,23,24,25,26,27,28,29,30,31,32,33,34],[0,1,2,3,4,5,6,7,8,9,10,11,12,13,14,15,16,17,18,19,20,21,22,23,24,25,26,27,28,29,30,31,32,33,34,35]] (Es:=?Es17) (rest:=?rest17) (st1:=?st117) ?_
  refine zQ ?_
  refine W.drawB hΓ 29 [[],[0],[],[0,1,2],[0,1,2,3],[],[0,1,2,3,5],[0,1,2,3,4,5,6],[],[],[9],[9,10],[8,9,10,11],[],[],[14],[14,15],[13,14,15,16],[8,9,10,11,12,13,14,15,16,17],[],[19],[19,20],[],[22],[22,23],[19,20,21,22,23,24],[8,9,10,11,12,13,14,15,16,17,18,19,20,21,22,23,24,25],[0,1,2,3,4,5,6,7,8,9,10,11,12,13,14,15,16,17,18,19,20,21,22,23,24,25,26],[0,1,2,3,4,5,6,7,8,9,10,11,12,13,14,15,16,17,18,19,20,21,22,23,24,25,26,27]] (Es:=?Es19) (rest:=?rest19) (st1:=?st119) ?_
  refine zM ?_
  refine W.subA [.slot 13 (vI k),.slot 12 (one (.sl V)),.slot 16 (vI ((q:Int)+S1+C+K+Wk)),.slot 17 (vI ((S0:Int)+M)),.slot 7 (one (.all 20)),.slot 0 (vL cN h.lst),.slot 2 (vL cN shaW),.blk 20 (.arr .ft 3 1 (rowsF cN (mem s 64)))] (h:=?_)
  refine zR ?_
  refine W.drawB hΓ 30 [[],[],[0,1],[0,1,2],[],[4],[4,5],[],[7],[7,8],[],[10],[10,11],[],[13],[13,14],[],[13,14,15,16],[0,1,2,3,13,14,15,16,17],[],[19],[19,20],[],[22],[22,23],[],[25],[25,26],[0,1,2,3,4,5,6,7,8,9,10,11,12,13,14,15,16,17,18,19,20,21,22,23,24,25,26,27],[0,1,2,3,4,5,6,7,8,9,10,11,12,13,14,15,16,17,18,19,20,21,22,23,24,25,26,27,28]] (Es:=?Es21) (rest:=?rest21) (st1:=?st121) ?_
  refine zQ ?_
  refine At.frzA 12 225 (h:=?_)
  exact At.roundA (k+1) (by omega) (by omega)
 have hk64:k=64:=by omega
 subst hk64
 clear hk hlt2 hlt3 hnil
 have hvok:=rnds_ok s hok 64
 have hbl:block h s=addW h (rnds s h 64):=rfl
 generalize rnds s h 64=v at*
 have hn0:([]:List (List Leaf))=rowsF cN ((addW h v).lst.take 0):=rfl
 refine zR ?_
 refine W.loopA (fun k=>k≤8) (fun k:Nat=>[.slot 19 (vI k),.slot 18 (one (.all 226)),.slot 12 (one (.sl (rowsF cN v.lst))),.slot 0 (vL cN h.lst),.blk 226 (.arr .ft 3 1 (rowsF cN ((addW h v).lst.take k)))]) (fun k=>8-k) 0 (Nat.zero_le _) (h:=?_)
 clear hn0
 rintro k hk
 have hvl:(rowsF cN v.lst).length=8:=rfl
 have hal:(addW h v).lst.length=8:=rfl
 by_cases hlt4:k<8
 ·have g1:=rowN (h.lst_get hlt4)
  have g2:=rowN (v.lst_get hlt4)
  have b1:=W8.lst_lt hok k
  have b2:=W8.lst_lt hvok k
  have hap:rowsF cN ((addW h v).lst.take k)++[[.sc (.int .i64 (((h.lst.getD k 0+v.lst.getD k 0)%4294967296:Nat):Int))]]=rowsF cN ((addW h v).lst.take (k+1)):=by
   have hkk:k<(addW h v).lst.length:=hlt4
   have hval:(addW h v).lst[k]=(h.lst.getD k 0+v.lst.getD k 0)%4294967296:=by
    have e1:(addW h v).lst=mixL h v 8:=(mixL_all h v).symm
    have e2:(mixL h v 8)[k]?=some ((h.lst.getD k 0+v.lst.getD k 0)%4294967296):=by simp [mixL,hlt4]
    rw [←e1,gsE hkk]at e2
    exact Option.some.inj e2
   rw [List.take_succ_eq_append_getElem hkk,←rowsF_app,hval]
   rfl
  have hlt:((addW h v).lst.take k).length≤8:=by rw [List.length_take];omega
  have hw:mWd [aI (((h.lst.getD k 0:Nat):Int)+((v.lst.getD k 0:Nat):Int))]=some (rNat ((h.lst.getD k 0+v.lst.getD k 0)%4294967296)):=by
   rw [show((h.lst.getD k 0:Nat):Int)+((v.lst.getD k 0:Nat):Int)=((h.lst.getD k 0+v.lst.getD k 0:Nat):Int)by simp]
   exact mWd_eq _ (by omega)
  generalize h.lst.getD k 0=x at*
  generalize v.lst.getD k 0=y at*
  refine zR ?_
  refine W.drawB hΓ 12 [[],[],[],[1,2],[1,2,3],[],[],[5,6],[5,6,7],[1,2,3,4,5,6,7,8],[1,2,3,4,5,6,7,8,9],[1,2,3,4,5,6,7,8,9,10],[0,1,2,3,4,5,6,7,8,9,10,11],[0,1,2,3,4,5,6,7,8,9,10,11,12]] (Es:=?Es25) (rest:=?rest25) (st1:=?st125) ?_
  refine zQ ?_
  exact At.roundA (k+1) (by omega) (by omega)
 have hk8:k=8:=by omega
 subst hk8
 have hta:(addW h v).lst.take 8=(addW h v).lst:=rfl
 refine zR ?_
 refine At.retA (by rw [Tryz.results94]) (he:=?_)
 rw [hbl]
end
section
abbrev aW (v:W8):Arg:=.val true [.sc (.int .u32 (v.a:Int)),.sc (.int .u32 (v.b:Int)),.sc (.int .u32 (v.c:Int)),.sc (.int .u32 (v.d:Int)),.sc (.int .u32 (v.e:Int)),.sc (.int .u32 (v.f:Int)),.sc (.int .u32 (v.g:Int)),.sc (.int .u32 (v.h:Int))]
abbrev roU (n:Nat):RL:=.ro (.sc (.int .u32 (n:Int)))
abbrev rW (v:W8):Res:=.comp true [roU v.a,roU v.b,roU v.c,roU v.d,roU v.e,roU v.f,roU v.g,roU v.h]
theorem byteN_extract {s:ByteArray}{a j:Nat}(h:a+j<s.size):byteN (s.extract a s.size) j=byteN s (a+j):=by
 unfold byteN byteU
 congr 1
 simp only [List.getD_eq_getElem?_getD,ByteArray.data_extract,Array.toList_extract,List.extract_eq_take_drop]
 rw [List.getElem?_take,List.getElem?_drop]
 split
 ·rfl
 ·rename_i hn
  exfalso
  omega
theorem word_of {s:ByteArray}(hs:s.size=64){k:Nat}(hk:k<16):mWord [aS (s.extract (4*k) s.size)]=some (rU (wAt s k)):=by
 rw [mWord_eq _ (by rw [ByteArray.size_extract];omega)]
 rw [byteN_extract (by omega),byteN_extract (by omega),byteN_extract (by omega),byteN_extract (by omega)]
 rfl
theorem getD_at {α:Type}{l:List α}{k:Nat}(h:k<l.length){d:α}:l.getD k d=l[k]:=by simp [h]
theorem add4_u32 (a b c d:Nat):IntKind.u32.wrap (IntKind.u32.wrap (IntKind.u32.wrap ((a:Int)+b)+c)+d)=(((a+b+c+d)%4294967296:Nat):Int):=by
 have hw:∀n:Int,IntKind.u32.wrap n=n%4294967296:=fun n=>by simp [IntKind.wrap,IntKind.bits,IntKind.signed]
 simp only [hw]
 omega
theorem add2_u32 (a b:Nat):IntKind.u32.wrap ((a:Int)+b)=(((a+b)%4294967296:Nat):Int):=by
 have hw:∀n:Int,IntKind.u32.wrap n=n%4294967296:=fun n=>by simp [IntKind.wrap,IntKind.bits,IntKind.signed]
 simp only [hw]
 omega
def shaL:List Leaf:=shaW.map fun(n:Nat)=>.sc (.int .u32 (n:Int))
theorem ev_shaW (st:St):ev st (.global 0)=one (.prow shaL 0):=by
 show(match globs 0 with|some cs=>one (.prow (cs.map Leaf.sc) 0)|none=>one .dead)=_
 unfold globs shaL
 rw [if_pos rfl]
 simp only [List.map_map]
 rfl
theorem shaL_get {k:Nat}(h:k<64):(shaL.map toPL)[k]?=some (pU (shaK k)):=by
 have hl:k<shaW.length:=h
 unfold shaL shaK
 rw [List.map_map,List.getElem?_map,gsE hl,getD_at hl]
 rfl
theorem not_u32 {e:Nat}(h:e<4294967296):bits .xor .u32 (if IntKind.u32.signed=true then-1 else IntKind.u32.max) (e:Int)=((4294967295^^^e:Nat):Int):=xor_u32 (a:=4294967295) (by omega) h
theorem blockI_s:Sound Tryz.prog 225 (mdl (fun x:W8×ByteArray=>x.1.ok∧x.2.size=64) (fun x=>[aW x.1,aS x.2]) fun x=>rW (block x.1 x.2)):=by
 refine Sound.mdl Tryz.func225 rfl Tryz.ntmps225 ?_
 rintro⟨h,s⟩ w ⟨hok,hs⟩
 refine⟨by simp,?_⟩
 dsimp only at hok hs
 have hΓ:=env_cons (hsO Tryz.func253) word_s (env_cons (hsO Tryz.func254) rot_s env_nil)
 have hnm:=lsNms_pU
 have hkp:=kill_pU
 refine zJ ?_
 refine W.loopA (fun k=>k≤16) (fun k:Nat=>[.slot 22 (vI k),.slot 5 (one (.ptr 5 0)),.slot 4 (one (.ptr 4 0)),.slot 2 (one (.ptr 2 0)),.slot 1 (vS s),.blk 5 (.box ((mem s k).map pU)),.blk 2 (.box h.pl),.blk 4 (.box (W8.pl ⟨0,0,0,0,0,0,0,0⟩))]) (fun k=>16-k) 0 (Nat.zero_le _) (h:=?_)
 rintro k hk
 have hml:((mem s k).map pU).length=64:=by rw [List.length_map,mem_len s (by omega)]
 by_cases hlt:k<16
 ·have e1:(4*(k:Int)).toNat=4*k:=by omega
  have c1:=word_of hs hlt
  rw [hs]at c1
  have hset:((mem s k).map pU).take k++[pU (wAt s k)]++((mem s k).map pU).drop (k+1)=(mem s (k+1)).map pU:=by
   rw [boxU_set _ (by rw [mem_len s (by omega)];omega),mem_set s (by omega) (sch_lo s hlt)]
  refine zR ?_
  exact At.roundA (k+1) (by omega) (by omega)
 have hk16:k=16:=by omega
 subst hk16
 refine zR ?_
 refine W.loopA (fun k=>16≤k∧k≤64) (fun k:Nat=>[.slot 7 (vI k),.slot 5 (one (.ptr 5 0)),.slot 4 (one (.ptr 4 0)),.slot 2 (one (.ptr 2 0)),.blk 5 (.box ((mem s k).map pU)),.blk 2 (.box h.pl),.blk 4 (.box (W8.pl ⟨0,0,0,0,0,0,0,0⟩))]) (fun k=>64-k) 16 ⟨by omega,by omega⟩ (h:=?_)
 rintro k ⟨hk1,hk2⟩
 have hml:((mem s k).map pU).length=64:=by rw [List.length_map,mem_len s (by omega)]
 by_cases hlt:k<64
 ·have g16:=boxU_get (mem_get s (k:=k) (j:=k-16) (by omega))
  have g15:=boxU_get (mem_get s (k:=k) (j:=k-15) (by omega))
  have g7:=boxU_get (mem_get s (k:=k) (j:=k-7) (by omega))
  have g2:=boxU_get (mem_get s (k:=k) (j:=k-2) (by omega))
  have l15:=schD_lt s k (k-15)
  have l2:=schD_lt s k (k-2)
  have hnx:=sch_hi s (k:=k) (by omega)
  generalize (sch s k).getD (k-16) 0=a at g16 hnx
  generalize (sch s k).getD (k-15) 0=b at g15 l15 hnx
  generalize (sch s k).getD (k-7) 0=c at g7 hnx
  generalize (sch s k).getD (k-2) 0=d at g2 l2 hnx
  have e16:((k:Int)-16).toNat=k-16:=by omega
  have e15:((k:Int)-15).toNat=k-15:=by omega
  have e7:((k:Int)-7).toNat=k-7:=by omega
  have e2:((k:Int)-2).toNat=k-2:=by omega
  have r7:mRot [aU b,aI (-7)]=some (rU (rotr b 7)):=mRot_eq b 7 l15 (by omega) (by omega)
  have r18:mRot [aU b,aI (-18)]=some (rU (rotr b 18)):=mRot_eq b 18 l15 (by omega) (by omega)
  have r17:mRot [aU d,aI (-17)]=some (rU (rotr d 17)):=mRot_eq d 17 l2 (by omega) (by omega)
  have r19:mRot [aU d,aI (-19)]=some (rU (rotr d 19)):=mRot_eq d 19 l2 (by omega) (by omega)
  have m3:min 3 IntKind.u32.bits=3:=rfl
  have m10:min 10 IntKind.u32.bits=10:=rfl
  have f3:=fdiv_nat b 3
  have f10:=fdiv_nat d 10
  have x1:=xor_u32 (rotr_lt b 7) (rotr_lt b 18)
  have y1:=Nat.xor_lt_two_pow (n:=32) (x:=rotr b 7) (y:=rotr b 18) (rotr_lt _ _) (rotr_lt _ _)
  have x2:=xor_u32 (a:=rotr b 7^^^rotr b 18) (b:=b/2^3) (by omega) (by omega)
  have x3:=xor_u32 (rotr_lt d 17) (rotr_lt d 19)
  have y3:=Nat.xor_lt_two_pow (n:=32) (x:=rotr d 17) (y:=rotr d 19) (rotr_lt _ _) (rotr_lt _ _)
  have x4:=xor_u32 (a:=rotr d 17^^^rotr d 19) (b:=d/2^10) (by omega) (by omega)
  have hadd:=add4_u32 a (rotr b 7^^^rotr b 18^^^b/2^3) c (rotr d 17^^^rotr d 19^^^d/2^10)
  have hset:((mem s k).map pU).take k++[pU ((a+(rotr b 7^^^rotr b 18^^^b/2^3)+c+(rotr d 17^^^rotr d 19^^^d/2^10))%4294967296)]++((mem s k).map pU).drop (k+1)=(mem s (k+1)).map pU:=by
   rw [boxU_set _ (by rw [mem_len s (by omega)];omega)]
   exact congrArg (List.map pU) (mem_set s hlt hnx)
  clear hnx y1 y3
  refine zR ?_
  refine W.drawB hΓ 10 [[],[0],[0,1],[0,1,2],[],[4],[4,5],[4,5,6],[0,1,2,3],[0,1,2,3,4,5,6,7,8]] (Es:=?Es7) (rest:=?rest7) (st1:=?st17) ?_
  refine zQ ?_
  refine W.drawB hΓ 15 [[],[],[1],[1,2],[1,2,3],[],[1,2,3,4,5],[],[7],[7,8],[7,8,9],[1,2,3,4,5,6,7,8,9,10],[],[1,2,3,4,5,6,7,8,9,10,11,12],[0,1,2,3,4,5,6,7,8,9,10,11,12,13],[0,1,2,3,4,5,6,7,8,9,10,11,12,13,14]] (Es:=?Es9) (rest:=?rest9) (st1:=?st19) ?_
  refine zQ ?_
  exact At.roundA (k+1) ⟨by omega,by omega⟩ (by omega)
 have hk64:k=64:=by omega
 subst hk64
 have hr0:rnds s h 0=h:=rfl
 refine zR ?_
 refine W.loopA (fun k=>k≤64) (fun k:Nat=>[.slot 77 (vI k),.slot 12 (one (.ptr 12 0)),.slot 5 (one (.ptr 5 0)),.slot 4 (one (.ptr 4 0)),.slot 2 (one (.ptr 2 0)),.blk 12 (.box (rnds s h k).pl),.blk 5 (.box ((mem s 64).map pU)),.blk 2 (.box h.pl),.blk 4 (.box (W8.pl ⟨0,0,0,0,0,0,0,0⟩))]) (fun k=>64-k) 0 (Nat.zero_le _) (h:=?_)
 rintro k hk
 by_cases hlt:k<64
 ·obtain⟨⟨ba,bb,bc,bd⟩,be,bf,bg,bh⟩:=rnds_ok s hok k
  have hgl:=ev_shaW
  have hK:=shaL_get hlt
  have hW:=boxU_get (mem_get s (k:=64) (j:=k) hlt)
  have na:(rnds s h (k+1)).a=(rnd (rnds s h k) (shaK k+(sch s 64).getD k 0)).a:=rfl
  have nb:(rnds s h (k+1)).b=(rnds s h k).a:=rfl
  have nc:(rnds s h (k+1)).c=(rnds s h k).b:=rfl
  have nd:(rnds s h (k+1)).d=(rnds s h k).c:=rfl
  have ne:(rnds s h (k+1)).e=(rnd (rnds s h k) (shaK k+(sch s 64).getD k 0)).e:=rfl
  have nf:(rnds s h (k+1)).f=(rnds s h k).e:=rfl
  have ng:(rnds s h (k+1)).g=(rnds s h k).f:=rfl
  have nh:(rnds s h (k+1)).h=(rnds s h k).g:=rfl
  generalize rnds s h k=v at*
  generalize shaK k=K at hK na ne
  generalize (sch s 64).getD k 0=Wk at hW na ne
  obtain⟨a,b,c,d,e,f,g,q⟩:=v
  dsimp only at ba bb bc bd be bf bg bh nb nc nd nf ng nh
  dsimp only [rnd]at na ne
  have r6:mRot [aU e,aI (-6)]=some (rU (rotr e 6)):=mRot_eq e 6 be (by omega) (by omega)
  have r11:mRot [aU e,aI (-11)]=some (rU (rotr e 11)):=mRot_eq e 11 be (by omega) (by omega)
  have r25:mRot [aU e,aI (-25)]=some (rU (rotr e 25)):=mRot_eq e 25 be (by omega) (by omega)
  have r2:mRot [aU a,aI (-2)]=some (rU (rotr a 2)):=mRot_eq a 2 ba (by omega) (by omega)
  have r13:mRot [aU a,aI (-13)]=some (rU (rotr a 13)):=mRot_eq a 13 ba (by omega) (by omega)
  have r22:mRot [aU a,aI (-22)]=some (rU (rotr a 22)):=mRot_eq a 22 ba (by omega) (by omega)
  have y1:=Nat.xor_lt_two_pow (n:=32) (x:=rotr e 6) (y:=rotr e 11) (rotr_lt _ _) (rotr_lt _ _)
  have y2:=Nat.xor_lt_two_pow (n:=32) (x:=rotr a 2) (y:=rotr a 13) (rotr_lt _ _) (rotr_lt _ _)
  have x1:=xor_u32 (rotr_lt e 6) (rotr_lt e 11)
  have x2:bits .xor .u32 ((rotr e 6^^^rotr e 11:Nat):Int) ((rotr e 25:Nat):Int)=((big1 e:Nat):Int):=xor_u32 y1 (rotr_lt e 25)
  have x3:=xor_u32 (rotr_lt a 2) (rotr_lt a 13)
  have x4:bits .xor .u32 ((rotr a 2^^^rotr a 13:Nat):Int) ((rotr a 22:Nat):Int)=((big0 a:Nat):Int):=xor_u32 y2 (rotr_lt a 22)
  have n1:=not_u32 be
  have hn:=Nat.xor_lt_two_pow (n:=32) (x:=4294967295) (y:=e) (by omega) be
  have a1:=and_u32 be bf
  have a2:=and_u32 (a:=4294967295^^^e) hn bg
  have p1:=Nat.and_lt_two_pow (n:=32) e bf
  have p2:=Nat.and_lt_two_pow (n:=32) (4294967295^^^e) bg
  have x5:bits .xor .u32 ((e&&&f:Nat):Int) (((4294967295^^^e)&&&g:Nat):Int)=((chs e f g:Nat):Int):=xor_u32 p1 p2
  have a3:=and_u32 ba bb
  have a4:=and_u32 ba bc
  have a5:=and_u32 bb bc
  have p3:=Nat.and_lt_two_pow (n:=32) a bb
  have p4:=Nat.and_lt_two_pow (n:=32) a bc
  have p5:=Nat.and_lt_two_pow (n:=32) b bc
  have p6:=Nat.xor_lt_two_pow (n:=32) p3 p4
  have x6:=xor_u32 p3 p4
  have x7:bits .xor .u32 (((a&&&b)^^^(a&&&c):Nat):Int) ((b&&&c:Nat):Int)=((maj a b c:Nat):Int):=xor_u32 p6 p5
  clear y1 y2 hn p1 p2 p3 p4 p5 p6
  generalize big1 e=S1 at x2 na ne
  generalize big0 a=S0 at x4 na
  generalize chs e f g=C at x5 na ne
  generalize maj a b c=M at x7 na
  have ad:=add4_u32 q S1 C K
  have ae:=add2_u32 ((q+S1+C+K)%4294967296) Wk
  have af:=add2_u32 (((q+S1+C+K)%4294967296+Wk)%4294967296) S0
  have ag:=add2_u32 (((((q+S1+C+K)%4294967296+Wk)%4294967296)+S0)%4294967296) M
  have ah:=add2_u32 d (((q+S1+C+K)%4294967296+Wk)%4294967296)
  have na':((((q+S1+C+K)%4294967296+Wk)%4294967296+S0)%4294967296+M)%4294967296=(rnds s h (k+1)).a:=by rw [na];omega
  have ne':(d+((q+S1+C+K)%4294967296+Wk)%4294967296)%4294967296=(rnds s h (k+1)).e:=by rw [ne];omega
  have hpl:(rnds s h (k+1)).pl=[pU (rnds s h (k+1)).a,pU a,pU b,pU c,pU (rnds s h (k+1)).e,pU e,pU f,pU g]:=by unfold W8.pl;rw [nb,nc,nd,nf,ng,nh]
  clear na ne nb nc nd nf ng nh
  refine zR ?_
  refine W.drawB hΓ 6 [[],[0],[],[2],[0,1],[0,1,2,3,4]] (Es:=?Es13) (rest:=?rest13) (st1:=?st113) ?_
  refine zQ ?_
  refine W.drawB hΓ 15 [[],[0],[],[0,1,2],[],[0,1,2,3,4],[],[6],[6,7],[0,1,2,3,4,5,6,7,8],[],[10],[10,11],[0,1,2,3,4,5,6,7,8,9,10,11,12],[0,1,2,3,4,5,6,7,8,9,10,11,12,13]] (Es:=?Es15) (rest:=?rest15) (st1:=?st115) ?_
  refine zQ ?_
  exact At.roundA (k+1) (by omega) (by omega)
 have hk64:k=64:=by omega
 subst hk64
 clear hml hr0 hk1 hk2
 generalize hv:rnds s h 64=v
 refine zR ?_
 refine W.loopA (fun k=>k≤8) (fun k:Nat=>[.slot 162 (vI k),.slot 12 (one (.ptr 12 0)),.slot 4 (one (.ptr 4 0)),.slot 2 (one (.ptr 2 0)),.blk 12 (.box (v.lst.map pU)),.blk 2 (.box ((mixL h v k).map pU)),.blk 4 (.box (W8.pl ⟨0,0,0,0,0,0,0,0⟩))]) (fun k=>8-k) 0 (Nat.zero_le _) (h:=?_)
 rintro k hk
 have hml:((mixL h v k).map pU).length=8:=by rw [List.length_map,mixL_len]
 by_cases hlt:k<8
 ·have g1:=boxU_get (mixL_get h v hlt)
  have g2:=boxU_get (v.lst_get hlt)
  have hml2:(v.lst.map pU).length=8:=rfl
  have ha:=add2_u32 (h.lst.getD k 0) (v.lst.getD k 0)
  have hset:((mixL h v k).map pU).take k++[pU ((h.lst.getD k 0+v.lst.getD k 0)%4294967296)]++((mixL h v k).map pU).drop (k+1)=(mixL h v (k+1)).map pU:=by
   rw [boxU_set _ (by rw [mixL_len];exact hlt),mixL_set h v hlt]
  clear hv
  generalize h.lst.getD k 0=x1 at*
  generalize v.lst.getD k 0=x2 at*
  refine zR ?_
  refine W.drawB hΓ 9 [[],[],[1],[1,2],[],[4],[4,5],[1,2,3,4,5,6],[0,1,2,3,4,5,6,7],[0,1,2,3,4,5,6,7,8]] (Es:=?Es19) (rest:=?rest19) (st1:=?st119) ?_
  refine zQ ?_
  exact At.roundA (k+1) (by omega) (by omega)
 have hk8:k=8:=by omega
 subst hk8
 have he:(mixL h v 8).map pU=(block h s).pl:=by rw [mixL_all,←hv];rfl
 refine zR ?_
 refine At.retA (by rw [Tryz.results225]) (he:=rfl)
end
end Go.Proofs.YtfgkfcfplodaoaaGreatDoor
