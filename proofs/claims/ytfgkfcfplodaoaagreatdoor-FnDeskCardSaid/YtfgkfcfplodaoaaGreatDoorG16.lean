/-
  Put together out of 2 texts.
-/
import Derived.Test.YtfgkfcfplodaoaaGreatDoorHPEvCur
import Derived.Test.YtfgkfcfplodaoaaGreatDoorG13
set_option linter.unusedSimpArgs false
set_option linter.unusedVariables false
set_option maxRecDepth 100000
set_option maxHeartbeats 4000000
namespace Go.Proofs.YtfgkfcfplodaoaaGreatDoor
open Go Go.RowKit
section
structure Cu where
 v:Value
 bs:List Nat
 i:Int
 h:Int
def cuL (c:Cu):List PL:=[.xl c.v (rowsF cU8 c.bs),.sc (.int .i64 c.i),.sc (.int .i64 c.h)]
def CuOk (c:Cu):Prop:=(∀n∈c.bs,n<256)∧0≤c.i∧c.i≤c.bs.length∧inI64 c.h∧c.bs.length≤140737488355328
def CuTo (c c':Cu):Prop:=c'.v=c.v∧c'.bs=c.bs∧CuOk c'
theorem cuL_ex (c:Cu):(cuL c).all exB=true:=rfl
theorem cuL_kept {c c':Cu}(h:CuTo c c'):Kept (cuL c) (cuL c'):=by
 obtain⟨h1,h2,_⟩:=h
 intro l hl
 unfold cuL at hl⊢
 rw [h1,h2]at hl
 simp only [List.mem_cons,List.not_mem_nil,or_false]at hl⊢
 rcases hl with rfl|rfl|rfl
 ·exact .inl (.inl rfl)
 ·exact .inr ⟨_,rfl,rfl⟩
 ·exact .inr ⟨_,rfl,rfl⟩
theorem CuTo.ok {c c':Cu}(h:CuTo c c'):CuOk c':=h.2.2
theorem CuTo.refl {c:Cu}(h:CuOk c):CuTo c c:=⟨rfl,rfl,h⟩
theorem CuTo.trans {c c' c'':Cu}(h:CuTo c c')(h':CuTo c' c''):CuTo c c'':=⟨h'.1.trans h.1,h'.2.1.trans h.2.1,h'.2.2⟩
abbrev SoundCu (P:Program)(f:FuncId){A B:Type}(ok:A→Prop)(enc:A→List Arg)(rel:A→B→Prop)(res:A→B→Res):Prop:=
 SoundC P f (α:=Cu×A) (β:=Cu×B) (fun x=>CuOk x.1∧ok x.2) (fun x=>cuL x.1) (fun x=>enc x.2) (fun x y=>CuTo x.1 y.1∧rel x.2 y.2) (fun _ y=>cuL y.1) (fun x y=>res x.2 y.2)
def PCu (w:World)(b:Nat)(k:Cu){A B:Type}(rel:A→B→Prop)(res:A→B→Res)(a:A):Ending→World→Prop:=fun e w'=>∃(y:Cu×B) (t':TypeId),(CuTo k y.1∧rel a y.2)∧Post (putO w b (.cells ((cuL y.1).map exV).toArray t' (0,0))) (res a y.2) e w'
theorem SoundCu.of {P:Program}{N:Nat}{f:FuncId}{fn:Func}{c:Code}{A B:Type}{ok:A→Prop}{enc:A→List Arg}{rel:A→B→Prop}{res:A→B→Res}
  (hf:P.funcs[f]?=some fn) (hb:fn.body=some c) (hN:fn.ntmps=N)
  (h:∀(k:Cu) (a:A) b w,CuOk k→ok a→b<w.heap.size→(enc a).length+1≤N∧
   W P (own1 b) w N (initC (cuL k) (enc a)) c (bodyPost P fn (PCu w b k rel res a))):SoundCu P f ok enc rel res:=
 SoundC.of hf hb hN (fun x y _ hr=>cuL_kept hr.1) fun x b w hok hB=>h x.1 x.2 b w hok.1 hok.2 hB
section
variable {γ0:Nat→Option Nat}{w0:World}{N:Nat}{st:St}{Q:Exit→Act→World→Prop}
theorem WL.opCu {ops:Array Oper}{r:List Oper}{d f m:Nat}{x0:Operand}{xs:List Operand}{ts:Array TypeId}{ty:TypeId}{pos:String}{after:Array Edge}
  {A B:Type} {ok:A→Prop} {enc:A→List Arg} {rel:A→B→Prop} {res:A→B→Res} {st1:Cu→B→St}
  (hf:Has Tryz.prog f) (hs:SoundCu Tryz.prog f ok enc rel res) (c:Cu) (hc:CuOk c) (a:A) (hok:ok a) (hN:d<N:=by decide)
  (hp:ev st x0=one (.ptr m 0):=by exact evcP) (hb:getB st m=some (.box (cuL c)):=by exact evcP) (ha:datasO st m xs=some (enc a):=by exact evcP)
  (hst:∀c' b,impE (.blk m (.box (cuL c'))::st) d (res a b)=st1 c' b:=by intro c' b;exact evcP)
  (h:∀c' b,CuTo c c'→rel a b→WL Tryz.prog γ0 w0 N ops r (st1 c' b) Q):
  WL Tryz.prog γ0 w0 N ops (⟨some d,.call ⟨.value (.func f),(x0::xs).toArray,ts⟩,ty,pos,after,none⟩::r) st Q:=
 WL.opC hf hs (c,a) ⟨hc,hok⟩ hN hp hb (cuL_ex c) ha fun y hy=>by
  rw [hst y.1 y.2]
  exact h y.1 y.2 hy.1 hy.2
theorem At.retCu {b:Nat}{fn:Func}{A B:Type}{rel:A→B→Prop}{res:A→B→Res}{k:Cu}{a:A}{l:List ResultVar}{ls:List PL}{r':Res}(hl:fn.results.toList=l)(hB:b<w0.heap.size)(k':Cu)(y:B)(hto:CuTo k k')(hrel:rel a y)(hN:N≤999:=by decide)
  (hb:getB st 999=some (.box ls):=by exact evcP) (hr:resO Tryz.prog (.kill 999::st) l=some r':=by simp only [resO,compsO,resV];exact evsP) (hL:apart (ownC Tryz.prog (.kill 999::st) 0 l)=true:=by simp only [ownC,resV];exact evsP)
  (hls:ls=cuL k') (he:r'=res a y):
  At (own1 b) w0 N st .ret (bodyPost Tryz.prog fn (PCu w0 b k rel res a)):=by
 subst hl
 exact At.retC (α:=Cu×A) (β:=Cu×B) (rel:=fun x y=>CuTo x.1 y.1∧rel x.2 y.2) (us':=fun _ y=>cuL y.1) (res:=fun x y=>res x.2 y.2) (x:=(k,a)) (k',y) ⟨hto,hrel⟩ hN hB (hb.trans (by rw [hls])) (cuL_ex k') (he▸hr) hL
end
theorem wrap_in (n:Int):inI64 (IntKind.i64.wrap n):=by
 have:IntKind.i64.wrap n=(n+9223372036854775808)%18446744073709551616-9223372036854775808:=by
  simp only [IntKind.wrap,IntKind.bits,IntKind.signed]
  simp
  split<;>omega
 rw [this]
 unfold inI64
 omega
theorem and_255 (x:Int):bits .and .i64 x 255=(((x%256).toNat:Nat):Int):=by
 show IntKind.i64.wrap ((BitVec.ofInt 64 x&&&BitVec.ofInt 64 255).toNat:Int)=_
 have h1:(BitVec.ofInt 64 255).toNat=2^8-1:=rfl
 rw [BitVec.toNat_and,h1,Nat.and_two_pow_sub_one_eq_mod,BitVec.toNat_ofInt,wrap_i64n (by omega)]
 have h2:((2^64:Nat):Int)=18446744073709551616:=rfl
 rw [h2]
 omega
theorem and_30 (x:Int):bits .and .i64 x 1073741823=(((x%1073741824).toNat:Nat):Int):=by
 show IntKind.i64.wrap ((BitVec.ofInt 64 x&&&BitVec.ofInt 64 1073741823).toNat:Int)=_
 have h1:(BitVec.ofInt 64 1073741823).toNat=2^30-1:=rfl
 rw [BitVec.toNat_and,h1,Nat.and_two_pow_sub_one_eq_mod,BitVec.toNat_ofInt,wrap_i64n (by omega)]
 have h2:((2^64:Nat):Int)=18446744073709551616:=rfl
 rw [h2]
 omega
theorem l1Byte_s:SoundCu Tryz.prog 113 (fun _:Unit=>True) (fun _=>[]) (fun(_:Unit) (r:Int)=>0≤r∧r≤255) (fun _ r=>rI r):=by
 refine SoundCu.of Tryz.func113 rfl Tryz.ntmps113 ?_
 rintro⟨v,bs,i,h⟩-b w ⟨hbs,hi0,hi1,hh,hlen⟩-hB
 refine⟨by simp,?_⟩
 dsimp only at hbs hi0 hi1 hh hlen
 have hΓ:=eN
 have e1:ar .i64 (h*6364136223846793005)=some (.int .i64 (IntKind.i64.wrap (h*6364136223846793005))):=rfl
 generalize IntKind.i64.wrap (h*6364136223846793005)=h1 at e1
 have e2:ar .i64 (h1+1442695040888963407)=some (.int .i64 (IntKind.i64.wrap (h1+1442695040888963407))):=rfl
 have h2i:=wrap_in (h1+1442695040888963407)
 generalize IntKind.i64.wrap (h1+1442695040888963407)=h2 at e2 h2i
 obtain⟨f,e3,hf⟩:∃f:Int→Int,(∀X,bits .and .i64 X 255=f X)∧∀X,0≤f X∧f X≤255:=⟨_,and_255,fun X=>by omega⟩
 have ecu:cuL ⟨v,bs,i,h⟩=[.xl v (rowsF cU8 bs),.sc (.int .i64 i),.sc (.int .i64 h)]:=rfl
 simp only [initC,ecu]
 refine zJ ?_
 refine W.drawB hΓ 13 [[],[0],[0,1],[0,1,2],[0,1,2,3],[],[5],[5,6],[5,6,7],[5,6,7,8],[0,1,2,3,4,5,6,7,8,9],[0,1,2,3,4,5,6,7,8,9,10],[0,1,2,3,4,5,6,7,8,9,10,11]] (Es:=?Es3) (rest:=?rest3) (st1:=?st13) ?_
 refine zM ?_
 generalize hx:f _=x
 have hxb:0≤x∧x≤255:=hx▸hf _
 clear hx
 by_cases hlt:i<bs.length
 ·have hr:(rowsF cU8 bs)[i.toNat]?=some [.sc (.int .u8 ((bs[i.toNat]'(by omega):Nat):Int))]:=rowsF_get cU8 bs i.toNat (by omega)
  have hn:=hbs (bs[i.toNat]'(by omega)) (List.getElem_mem _)
  generalize bs[i.toNat]'(by omega)=n at hr hn
  refine zR ?_
  refine W.drawB hΓ 10 [[],[0],[0,1],[0,1,2],[],[4],[4,5],[4,5,6],[4,5,6,7],[0,1,2,3,4,5,6,7,8]] (Es:=?Es5) (rest:=?rest5) (st1:=?st15) ?_
  refine zQ ?_
  refine W.drawB hΓ 15 [[],[],[1],[1,2],[1,2,3],[],[5],[5,6],[5,6,7],[1,2,3,4,5,6,7,8],[1,2,3,4,5,6,7,8,9],[1,2,3,4,5,6,7,8,9,10],[0,1,2,3,4,5,6,7,8,9,10,11],[0,1,2,3,4,5,6,7,8,9,10,11,12],[0,1,2,3,4,5,6,7,8,9,10,11,12,13]] (Es:=?Es7) (rest:=?rest7) (st1:=?st17) ?_
  refine zQ ?_
  refine At.retCu (by rw [Tryz.results113]) hB ⟨v,bs,i+1,h2⟩ (f (x+n)) ⟨rfl,rfl,hbs,by dsimp only;omega,by dsimp only;omega,h2i,hlen⟩ (hf _) (hls:=?_) (he:=?_)
  ·rfl
  ·rfl
 ·refine zR ?_
  refine W.drawB hΓ 10 [[],[0],[0,1],[0,1,2],[],[4],[4,5],[4,5,6],[4,5,6,7],[0,1,2,3,4,5,6,7,8]] (Es:=?Es10) (rest:=?rest10) (st1:=?st110) ?_
  refine zQ ?_
  refine At.retCu (by rw [Tryz.results113]) hB ⟨v,bs,i,h2⟩ x ⟨rfl,rfl,hbs,hi0,hi1,h2i,hlen⟩ hxb (hls:=?_) (he:=?_)
  ·rfl
  ·rfl
def CuNew (x:Value×List Nat)(y:Cu):Prop:=y.v=x.1∧y.bs=x.2∧CuOk y
def CodeOk (bs:List Nat):Prop:=(∀n∈bs,n<256)∧bs.length≤140737488355328
abbrev SoundNew (P:Program)(f:FuncId):Prop:=SoundB P f (α:=Value×List Nat) (β:=Cu) (fun x=>CodeOk x.2) (fun x=>[.xl x.1 (rowsF cU8 x.2)]) CuNew (fun _ y=>cuL y)
theorem l1New_s:SoundNew Tryz.prog 54:=by
 refine SoundB.of Tryz.func54 rfl Tryz.ntmps54 (fun x y _ hr l hl=>?_) ?_
 ·obtain⟨h1,h2,_⟩:=hr
  unfold cuL at hl
  rw [h1,h2]at hl
  simp only [List.mem_cons,List.not_mem_nil,or_false]at hl⊢
  rcases hl with rfl|rfl|rfl
  ·exact .inl rfl
  ·exact .inr ⟨_,rfl,rfl⟩
  ·exact .inr ⟨_,rfl,rfl⟩
 rintro⟨v,bs⟩ w ⟨hbs,hlen⟩
 refine⟨by simp,?_⟩
 dsimp only at hbs hlen
 have hΓ:=eN
 obtain⟨f,e3,hf⟩:∃f:Int→Int,(∀X,bits .and .i64 X 1073741823=f X)∧∀X,0≤f X∧f X≤1073741823:=⟨_,and_30,fun X=>by omega⟩
 simp only [initX]
 refine zR ?_
 refine W.loopA (fun x:Int×Int=>0≤x.1∧x.1≤bs.length∧0≤x.2∧x.2≤281474976710656) (fun x=>[.slot 0 (one (.xl v (rowsF cU8 bs))),.slot 3 (vI x.2),.slot 4 (vI x.1)]) (fun x=>(bs.length-x.1).toNat) (0,10101+bs.length) ⟨by simp,by simp,by dsimp only;omega,by dsimp only;omega⟩ (h:=?_)
 rintro⟨i,h⟩ ⟨hi0,hi1,hh0,hh1⟩
 dsimp only at hi0 hi1 hh0 hh1⊢
 by_cases hlt:i<bs.length
 ·have hr:(rowsF cU8 bs)[i.toNat]?=some [.sc (.int .u8 ((bs[i.toNat]'(by omega):Nat):Int))]:=rowsF_get cU8 bs i.toNat (by omega)
  have hn:=hbs (bs[i.toNat]'(by omega)) (List.getElem_mem _)
  generalize bs[i.toNat]'(by omega)=n at hr hn
  by_cases h4:i<4000
  ·have hX:=hf (h*131+n+7)
   refine zR ?_
   exact At.roundA (i+1,f (h*131+n+7)) ⟨by dsimp only;omega,by dsimp only;omega,hX.1,by dsimp only;omega⟩ (by dsimp only;omega)
  ·refine zR ?_
   refine At.retB (P:=Tryz.prog) (us':=fun _ y=>cuL y) (rel:=CuNew) (x:=(v,bs)) (n:=31) ⟨v,bs,0,h⟩ ⟨rfl,rfl,hbs,by simp,by simp,⟨by dsimp only;omega,by dsimp only;omega⟩,hlen⟩ (by rw [Tryz.results54]) ?_ ?_ (cuL_ex _)
   ·exact evsP
   ·exact evsP
 ·refine zR ?_
  refine At.retB (P:=Tryz.prog) (us':=fun _ y=>cuL y) (rel:=CuNew) (x:=(v,bs)) (n:=31) ⟨v,bs,0,h⟩ ⟨rfl,rfl,hbs,by simp,by simp,⟨by dsimp only;omega,by dsimp only;omega⟩,hlen⟩ (by rw [Tryz.results54]) ?_ ?_ (cuL_ex _)
  ·exact evsP
  ·exact evsP
def rBelow (n r:Int):Prop:=0≤r∧(0<n→r<n)∧(n≤0→r=0)
theorem l1Below_s:SoundCu Tryz.prog 56 (fun n:Int=>inI64 n) (fun n=>[aI n]) rBelow (fun _ r=>rI r):=by
 refine SoundCu.of Tryz.func56 rfl Tryz.ntmps56 ?_
 rintro k n b w hc hn hB
 refine⟨by simp,?_⟩
 simp only [initC]
 have hΓ:=eN
 have hB8:Has Tryz.prog 113:=hsO Tryz.func113
 obtain⟨hn1,hn2⟩:=hn
 refine zI ?_
 by_cases h0:n≤0
 ·refine zR ?_
  refine At.retCu (by rw [Tryz.results56]) hB (hls:=?_) (he:=?_) k 0 (.refl hc) ⟨by omega,by omega,by omega⟩
  ·rfl
  ·rfl
 ·by_cases h1:n≤256
  ·refine zV ?_
   refine WL.opCu hB8 l1Byte_s k hc () trivial (h:=?_)
   intro k1 r hk1 ⟨hr0,hr1⟩
   have hnz:(n=0)=False:=by simp;omega
   refine zQ ?_
   refine At.retCu (by rw [Tryz.results56]) hB (hls:=?_) (he:=?_) k1 (r.tmod n) hk1 ?_
   ·rw [Int.tmod_eq_emod_of_nonneg hr0]
    exact⟨Int.emod_nonneg _ (by omega),fun h=>Int.emod_lt_of_pos _ h,fun h=>absurd h h0⟩
   ·rfl
   ·rfl
  ·have hnz:(n=0)=False:=by simp;omega
   refine zV ?_
   refine WL.opCu hB8 l1Byte_s k hc () trivial (h:=?_)
   intro k1 r1 hk1 ⟨ha0,ha1⟩
   refine zM ?_
   refine zV ?_
   refine WL.opCu hB8 l1Byte_s k1 hk1.ok () trivial (h:=?_)
   intro k2 r2 hk2 ⟨hb0,hb1⟩
   refine zM ?_
   refine zV ?_
   refine WL.opCu hB8 l1Byte_s k2 hk2.ok () trivial (h:=?_)
   intro k3 r3 hk3 ⟨hc0,hc1⟩
   refine zM ?_
   refine zV ?_
   refine WL.opCu hB8 l1Byte_s k3 hk3.ok () trivial (h:=?_)
   intro k4 r4 hk4 ⟨hd0,hd1⟩
   refine zQ ?_
   refine At.retCu (by rw [Tryz.results56]) hB (hls:=?_) (he:=?_) k4 ((r1*16777216+r2*65536+r3*256+r4).tmod n) (((hk1.trans hk2).trans hk3).trans hk4) ?_
   ·rw [Int.tmod_eq_emod_of_nonneg (by omega)]
    exact⟨Int.emod_nonneg _ (by omega),fun h=>Int.emod_lt_of_pos _ h,fun h=>absurd h h0⟩
   ·rfl
   ·rfl
theorem l1Once_s:SoundCu Tryz.prog 55 (fun n:Int=>inI64 n) (fun n=>[aI n]) (fun(_:Int) (_:Bool)=>True) (fun _ r=>rB r):=by
 refine SoundCu.of Tryz.func55 rfl Tryz.ntmps55 ?_
 rintro k n b w hc hn hB
 refine⟨by simp,?_⟩
 simp only [initC]
 have hΓ:=eN
 have hB8:Has Tryz.prog 56:=hsO Tryz.func56
 refine zI ?_
 refine zV ?_
 refine WL.opCu hB8 l1Below_s k hc n hn (h:=?_)
 rintro k1 r hk1-
 refine zQ ?_
 refine At.retCu (by rw [Tryz.results55]) hB (hls:=?_) (he:=?_) k1 (decide (r=0)) hk1 trivial
 ·rfl
 ·rfl
theorem l1Pick_s:SoundCu Tryz.prog 114 (fun l:List ByteArray=>0<l.length∧l.length≤140737488355328) (fun l=>[aL cStr l]) (fun l r=>r∈l) (fun _ r=>rS r):=by
 refine SoundCu.of Tryz.func114 rfl Tryz.ntmps114 ?_
 rintro k l b w hc ⟨hl0,hl1⟩ hB
 refine⟨by simp,?_⟩
 simp only [initC]
 have hΓ:=eN
 have hB8:Has Tryz.prog 56:=hsO Tryz.func56
 refine zI ?_
 refine zV ?_
 refine WL.opCu hB8 l1Below_s k hc (l.length:Int) ⟨by omega,by omega⟩ (h:=?_)
 rintro k1 r hk1 ⟨hr0,hr1,-⟩
 have hlt:r.toNat<l.length:=by have:=hr1 (by omega);omega
 have hr:(rowsF cStr l)[r.toNat]?=some [.sc (.string l[r.toNat])]:=rowsF_get cStr l r.toNat hlt
 refine zQ ?_
 refine At.retCu (by rw [Tryz.results114]) hB (hls:=?_) (he:=?_) k1 l[r.toNat] hk1 (List.getElem_mem _)
 ·rfl
 ·rfl
theorem lsNms_cu (c:Cu):lsNms (cuL c)=[]:=rfl
theorem kill_cu (m:Nat)(c:Cu):(cuL c).map (PL.kill m)=cuL c:=rfl
def PRl (w:World){α β:Type}(rel:α→β→Prop)(res:α→β→Res)(x:α):Ending→World→Prop:=fun e w'=>∃y,rel x y∧Post w (res x y) e w'
theorem SoundR.ofXA {P:Program}{N:Nat}{f:FuncId}{fn:Func}{c:Code}{α β:Type}{ok:α→Prop}{rows:α→List (List Leaf)}{rel:α→β→Prop}{res:α→β→Res}
  (hf:P.funcs[f]?=some fn) (hb:fn.body=some c) (hN:fn.ntmps=N) (h1:1≤N)
  (h:∀x v w,ok x→W P none0 w N (initX 0 [.xl v (rows x)]) c (bodyPost P fn (PRl w rel res x))):SoundR P f ok (fun x=>[.val false [.sl (rows x)]]) rel res:=SoundR.ofX hf hb hN h1 h
section
variable {γ0:Nat→Option Nat}{w0:World}{N:Nat}{st:St}{Q:Exit→Act→World→Prop}
theorem At.retRA {fn:Func}{α β:Type}{rel:α→β→Prop}{res:α→β→Res}{x:α}{l:List ResultVar}{r':Res}(hl:fn.results.toList=l)(y:β)(hrel:rel x y)
  (hr:resO Tryz.prog st l=some r':=by simp only [resO,compsO,resV];exact evsP) (hL:apart (ownC Tryz.prog st 0 l)=true:=by simp only [ownC,resV];exact evsP) (he:r'=res x y):
  At none0 w0 N st .ret (bodyPost Tryz.prog fn (PRl w0 rel res x)):=by
 subst hl
 exact At.retR y hrel (he▸hr) hL
theorem WL.opRA {ops:Array Oper}{r:List Oper}{d f:Nat}{xs:List Operand}{ts:Array TypeId}{ty:TypeId}{pos:String}{after:Array Edge}
  {α β:Type} {ok:α→Prop} {enc:α→List Arg} {rel:α→β→Prop} {res:α→β→Res} {st1:β→St}
  (hf:Has Tryz.prog f) (hs:SoundR Tryz.prog f ok enc rel res) (x:α) (hok:ok x) (hN:d<N:=by decide) (ha:argsO st xs=some (enc x):=by exact evsP)
  (hst:∀y,impE st d (res x y)=st1 y:=by intro y;exact evsP)
  (h:∀y,rel x y→WL Tryz.prog γ0 w0 N ops r (st1 y) Q):
  WL Tryz.prog γ0 w0 N ops (⟨some d,.call ⟨.value (.func f),xs.toArray,ts⟩,ty,pos,after,none⟩::r) st Q:=
 WL.opR hf hs x hok hN ha fun y hy=>by
  rw [hst y]
  exact h y hy
theorem WL.opNew {ops:Array Oper}{r:List Oper}{d f:Nat}{xs:List Operand}{ts:Array TypeId}{ty:TypeId}{pos:String}{after:Array Edge}
  (hf:Has Tryz.prog f) (hs:SoundNew Tryz.prog f) (v:Value) (bs:List Nat) (hok:CodeOk bs) (hN:d<N:=by decide) (hd:getB st d=none:=by exact evsP) (ha:exactO st xs=some [.xl v (rowsF cU8 bs)]:=by exact evcP)
  (h:∀c,CuOk c→WL Tryz.prog γ0 w0 N ops r (.slot d (one (.ptr d 0))::.blk d (.box (cuL c))::st) Q):
  WL Tryz.prog γ0 w0 N ops (⟨some d,.call ⟨.value (.func f),xs.toArray,ts⟩,ty,pos,after,none⟩::r) st Q:=
 WL.opB hf hs (v,bs) hok hN hd ha fun y hy=>h y hy.2.2
end
end
section
def digF:Nat→Nat→List Nat
 |0,n=>[48+n%10]
 |k+1,n=>if n<10 then [48+n%10]else digF k (n/10)++[48+n%10]
def digL (n:Nat):List Nat:=digF 9 n
theorem digF_lo (k:Nat){n:Nat}(h:n<10):digF k n=[48+n%10]:=by
 cases k with
 |zero=>rfl
 |succ k=>simp [digF,h]
theorem digF_hi (k:Nat){n:Nat}(h:¬n<10):digF (k+1) n=digF k (n/10)++[48+n%10]:=by simp [digF,h]
theorem digF_len:∀k n,(digF k n).length≤k+1
 |0,n=>by simp [digF]
 |k+1,n=>by
  unfold digF
  split
  ·simp
  ·have:=digF_len k (n/10)
   simp;omega
theorem digF_pos (k n:Nat):0<(digF k n).length:=by
 cases k with
 |zero=>simp [digF]
 |succ k=>unfold digF;split<;>simp
def DigI (n:Nat)(x:Nat×Nat×List Nat):Prop:=(x.1=0∧x.2.2=digL n)∨(¬x.1=0∧digF x.2.1 x.1++x.2.2=digL n∧x.1<10^(x.2.1+1)∧x.1≤999999999)
theorem DigI.len {n:Nat}{x:Nat×Nat×List Nat}(h:DigI n x)(h0:¬x.1=0):x.2.2.length≤9:=by
 rcases h with h|h
 ·exact absurd h.1 h0
 ·have h1:=congrArg List.length h.2.1
  have h2:(digL n).length≤10:=digF_len 9 n
  have h3:=digF_pos x.2.1 x.1
  rw [List.length_append]at h1
  omega
theorem DigI.le {n:Nat}{x:Nat×Nat×List Nat}(h:DigI n x):x.1≤999999999:=by
 rcases h with h|h
 ·rw [h.1];omega
 ·exact h.2.2.2
theorem DigI.next {n m k:Nat}{L:List Nat}(h:DigI n (m,k,L))(h0:¬m=0):∃k',DigI n (m/10,k',(48+m%10)::L):=by
 rcases h with h|⟨_,h2,h3,h4⟩
 ·exact absurd h.1 h0
 ·dsimp only at h2 h3 h4
  by_cases hm:m<10
  ·rw [digF_lo _ hm]at h2
   exact⟨0,.inl ⟨Nat.div_eq_of_lt hm,h2⟩⟩
  ·cases k with
   |zero=>exact absurd h3 (by simpa using hm)
   |succ k=>
    rw [digF_hi _ hm,List.append_assoc]at h2
    refine⟨k,.inr ⟨by dsimp only;omega,h2,?_,by dsimp only;omega⟩⟩
    dsimp only
    rw [Nat.pow_succ]at h3
    omega
theorem DigI.done {n k:Nat}{L:List Nat}(h:DigI n (0,k,L)):L=digL n:=by
 rcases h with h|h
 ·exact h.2
 ·exact absurd rfl h.1
def decZ (n:Int):List Nat:=if n=0 then [48]else if n<0 then 45::digL n.natAbs else digL n.natAbs
theorem decZ_pos {a:Nat}(h:1≤a):decZ (a:Int)=digL a:=by
 unfold decZ
 rw [if_neg (by omega),if_neg (by omega),Int.natAbs_natCast]
theorem decZ_neg {a:Nat}(h:1≤a):decZ (-(a:Int))=45::digL a:=by
 unfold decZ
 rw [if_neg (by omega),if_pos (by omega),Int.natAbs_neg,Int.natAbs_natCast]
theorem decZ_len (n:Int):0<(decZ n).length∧(decZ n).length≤11:=by
 unfold decZ
 have h1:=digF_len 9 n.natAbs
 have h2:=digF_pos 9 n.natAbs
 change (digL n.natAbs).length≤10 at h1
 change 0<(digL n.natAbs).length at h2
 split
 ·simp
 ·split
  ·simp;omega
  ·omega
theorem bsS_appZ (a b:List Nat):bsS a++bsS b=bsS (a++b):=by
 unfold bsS
 apply ByteArray.ext
 simp
theorem rowZ {l:List Nat}{k v:Nat}(h:l[k]?=some v):(rowsF cU8 l)[k]?=some [.sc (.int .u8 (v:Int))]:=by
 unfold rowsF
 rw [List.getElem?_map,h]
 rfl
abbrev okDecZ (n:Int):Prop:= -999999999≤n∧n≤999999999
noncomputable def mDecZ:=mdl okDecZ (fun n=>[aI n]) (fun n=>rS (bsS (decZ n)))
theorem mDecZ_eq (n:Int)(h:okDecZ n):mDecZ [aI n]=some (rS (bsS (decZ n))):=mdl_eq (by intro a b h;simpa using h) n h
theorem int_cases (n:Int):n=0∨(∃a:Nat,1≤a∧n=(a:Int))∨∃a:Nat,1≤a∧n= -(a:Int):=by
 rcases Int.lt_trichotomy n 0 with h|h|h
 ·exact .inr (.inr ⟨n.natAbs,by omega,by omega⟩)
 ·exact .inl h
 ·exact .inr (.inl ⟨n.natAbs,by omega,by omega⟩)
def mixZ (D:List Nat)(i:Nat):List Nat:=(List.range D.length).map fun k=>if k<i∨D.length-1-i<k then D.getD k 0 else D.getD (D.length-1-k) 0
theorem mixZ_len (D:List Nat)(i:Nat):(mixZ D i).length=D.length:=by simp [mixZ]
theorem mixZ_zero (D:List Nat):mixZ D 0=D.reverse:=by
 refine List.ext_getElem (by simp [mixZ]) fun k h1 h2=>?_
 rw [mixZ_len]at h1
 simp only [mixZ,List.getElem_map,List.getElem_range,List.getElem_reverse]
 rw [if_neg (by omega),List.getD_eq_getElem?_getD,gsE (by omega)]
 rfl
theorem mixZ_all {D:List Nat}{i:Nat}(h:¬2*i+1<D.length):mixZ D i=D:=by
 refine List.ext_getElem (mixZ_len _ _) fun k h1 h2=>?_
 simp only [mixZ,List.getElem_map,List.getElem_range]
 by_cases hk:k<i∨D.length-1-i<k
 ·rw [if_pos hk,List.getD_eq_getElem?_getD,gsE h2];rfl
 ·rw [if_neg hk]
  have e:D.length-1-k=k:=by omega
  rw [e,List.getD_eq_getElem?_getD,gsE h2];rfl
theorem mixZ_i {D:List Nat}{i:Nat}(h:2*i+1<D.length):(mixZ D i)[i]?=some (D.getD (D.length-1-i) 0):=by
 have hl:i<D.length:=by omega
 simp only [mixZ,List.getElem?_map,List.getElem?_range hl,Option.map_some]
 rw [if_neg (by omega)]
theorem mixZ_j {D:List Nat}{i:Nat}(h:2*i+1<D.length):(mixZ D i)[D.length-1-i]?=some (D.getD i 0):=by
 have hl:D.length-1-i<D.length:=by omega
 simp only [mixZ,List.getElem?_map,List.getElem?_range hl,Option.map_some]
 rw [if_neg (by omega)]
 congr 2
 omega
theorem mixZ_set {D:List Nat}{i:Nat}(h:2*i+1<D.length):((mixZ D i).set i (D.getD i 0)).set (D.length-1-i) (D.getD (D.length-1-i) 0)=mixZ D (i+1):=by
 refine List.ext_getElem (by simp [mixZ]) fun k h1 h2=>?_
 simp only [List.getElem_set,mixZ,List.getElem_map,List.getElem_range]
 by_cases e1:D.length-1-i=k
 ·rw [if_pos e1,if_pos (by omega),e1]
 ·rw [if_neg e1]
  by_cases e2:i=k
  ·rw [if_pos e2,if_pos (by omega),e2]
  ·rw [if_neg e2]
   by_cases hk:k<i∨D.length-1-i<k
   ·rw [if_pos hk,if_pos (by omega)]
   ·rw [if_neg hk,if_neg (by omega)]
def jz (D:List Nat)(i:Nat):Int:=(D.length:Int)-1-(i:Int)
theorem decZS_s:Sound Tryz.prog 41 mDecZ:=by
 refine Sound.mdl Tryz.func41 rfl Tryz.ntmps41 ?_
 rintro n w ⟨n1,n2⟩
 refine⟨by simp,?_⟩
 have hΓ:=eN
 rcases int_cases n with rfl|⟨n,hn1,rfl⟩|⟨n,hn1,rfl⟩
 ·refine zJ ?_
  refine At.retA (by rw [Tryz.results41]) (he:=rfl)
 ·skip
  refine zJ ?_
  refine W.loopA (DigI n) (fun x=>[.slot 0 (vI (((x.1:Nat):Int))),.slot 3 (vS (bsS x.2.2)),.slot 4 (vB false)]) (fun x=>x.1) (n,9,[]) (.inr ⟨by dsimp only;omega,List.append_nil _,by dsimp only;omega,by dsimp only;omega⟩) (h:=?_)
  rintro⟨m,k,L⟩ hI
  dsimp only
  have hlm:=hI.le
  dsimp only at hlm
  by_cases hm:m=0
  ·subst hm
   have hd:=hI.done
   subst hd
   clear hI
   have hl10:(digL n).length≤10:=digF_len 9 n
   have z2:=bsS_size (digL n)
   refine zR ?_
   refine At.retA (by rw [Tryz.results41]) (he:=?_)
   rw [decZ_pos hn1]
  ·have hln:L.length≤9:=hI.len hm
   obtain⟨k',hnx⟩:=hI.next hm
   have t1:(m:Int).tmod 10=((m%10:Nat):Int):=by rw [Int.tmod_eq_emod_of_nonneg (by omega)];omega
   have t2:(m:Int).tdiv 10=((m/10:Nat):Int):=by rw [Int.tdiv_eq_ediv_of_nonneg (by omega)];omega
   have hb:bytesE [[.sc (.int .u8 ((48+m%10:Nat):Int))]]=some [UInt8.ofNat (48+m%10)]:=bytes_rows [48+m%10]
   have hcat:(⟨[UInt8.ofNat (48+m%10)].toArray⟩:ByteArray)++bsS L=bsS ((48+m%10)::L):=bsS_appZ [48+m%10] L
   have z1:(⟨[UInt8.ofNat (48+m%10)].toArray⟩:ByteArray).size=1:=rfl
   have z2:=bsS_size L
   clear hI
   have hw:IntKind.u8.wrap (48+((m%10:Nat):Int))=((48+m%10:Nat):Int):=by
    rw [show 48+((m%10:Nat):Int)=((48+m%10:Nat):Int)by omega]
    exact wrap_u8n (by omega)
   refine zR ?_
   exact At.roundA (m/10,k',(48+m%10)::L) hnx (by dsimp only;omega)
 ·skip
  refine zJ ?_
  refine W.loopA (DigI n) (fun x=>[.slot 0 (vI (-((x.1:Nat):Int))),.slot 3 (vS (bsS x.2.2)),.slot 4 (vB true)]) (fun x=>x.1) (n,9,[]) (.inr ⟨by dsimp only;omega,List.append_nil _,by dsimp only;omega,by dsimp only;omega⟩) (h:=?_)
  rintro⟨m,k,L⟩ hI
  dsimp only
  have hlm:=hI.le
  dsimp only at hlm
  by_cases hm:m=0
  ·subst hm
   have hd:=hI.done
   subst hd
   clear hI
   have hl10:(digL n).length≤10:=digF_len 9 n
   have z2:=bsS_size (digL n)
   have hz:(-((0:Nat):Int))=0:=rfl
   have hcat2:(⟨#[45]⟩:ByteArray)++bsS (digL n)=bsS (45::digL n):=bsS_appZ [45] (digL n)
   have z1:(⟨#[45]⟩:ByteArray).size=1:=rfl
   refine zR ?_
   refine At.retA (by rw [Tryz.results41]) (he:=?_)
   rw [decZ_neg hn1]
  ·have hln:L.length≤9:=hI.len hm
   obtain⟨k',hnx⟩:=hI.next hm
   have t1:(-(m:Int)).tmod 10= -((m%10:Nat):Int):=by rw [Int.neg_tmod,Int.tmod_eq_emod_of_nonneg (by omega)];omega
   have t2:(-(m:Int)).tdiv 10= -((m/10:Nat):Int):=by rw [Int.neg_tdiv,Int.tdiv_eq_ediv_of_nonneg (by omega)];omega
   have hnn:(0:Int)- -((m%10:Nat):Int)=((m%10:Nat):Int):=by omega
   have hb:bytesE [[.sc (.int .u8 ((48+m%10:Nat):Int))]]=some [UInt8.ofNat (48+m%10)]:=bytes_rows [48+m%10]
   have hcat:(⟨[UInt8.ofNat (48+m%10)].toArray⟩:ByteArray)++bsS L=bsS ((48+m%10)::L):=bsS_appZ [48+m%10] L
   have z1:(⟨[UInt8.ofNat (48+m%10)].toArray⟩:ByteArray).size=1:=rfl
   have z2:=bsS_size L
   clear hI
   by_cases hr:m%10≤0
   ·have hw0:IntKind.u8.wrap (48+ -((m%10:Nat):Int))=((48+m%10:Nat):Int):=by
     rw [show 48+ -((m%10:Nat):Int)=((48+m%10:Nat):Int)by omega]
     exact wrap_u8n (by omega)
    refine zR ?_
    exact At.roundA (m/10,k',(48+m%10)::L) hnx (by dsimp only;omega)
   ·have hw:IntKind.u8.wrap (48+((m%10:Nat):Int))=((48+m%10:Nat):Int):=by
     rw [show 48+((m%10:Nat):Int)=((48+m%10:Nat):Int)by omega]
     exact wrap_u8n (by omega)
    refine zR ?_
    exact At.roundA (m/10,k',(48+m%10)::L) hnx (by dsimp only;omega)
theorem decZI_s:Sound Tryz.prog 101 mDecZ:=by
 refine Sound.mdl Tryz.func101 rfl Tryz.ntmps101 ?_
 rintro n w ⟨n1,n2⟩
 refine⟨by simp,?_⟩
 have hΓ:=eN
 rcases int_cases n with rfl|⟨n,hn1,rfl⟩|⟨n,hn1,rfl⟩
 ·refine zJ ?_
  refine At.retA (by rw [Tryz.results101]) (he:=rfl)
 ·skip
  have hnil:([]:List (List Leaf))=rowsF cU8 (([]:List Nat).reverse):=rfl
  refine zJ ?_
  refine W.loopA (DigI n) (fun x=>[.slot 0 (vI (((n:Nat):Int))),.slot 4 (vI (((x.1:Nat):Int))),.slot 3 (one (.all 10)),.blk 10 (.arr .ft 5 1 (rowsF cU8 x.2.2.reverse))]) (fun x=>x.1) (n,9,[]) (.inr ⟨by dsimp only;omega,List.append_nil _,by dsimp only;omega,by dsimp only;omega⟩) (h:=?_)
  clear hnil
  rintro⟨m,k,L⟩ hI
  dsimp only
  have hlm:=hI.le
  dsimp only at hlm
  by_cases hm:m=0
  ·subst hm
   have hd:=hI.done
   subst hd
   clear hI
   have hl10:(digL n).length≤10:=digF_len 9 n
   have hlr0:(digL n).reverse.length=(digL n).length:=List.length_reverse
   have hv:digL n=decZ (((n:Nat):Int)):=(decZ_pos hn1).symm
   have hDl:=decZ_len (((n:Nat):Int))
   rw [←hv]at hDl
   generalize hD:digL n=D at hv hDl hlr0 hl10⊢
   have hlr:D.reverse.length=D.length:=List.length_reverse
   replace hv:bsS (decZ (((n:Nat):Int)))=bsS D:=by rw [hv]
   refine zR ?_
   have hz:=mixZ_zero D
   have hj0:jz D 0=(D.length:Int)-1:=by unfold jz;omega
   refine W.loopA (fun i=>2*i≤D.length+1) (fun i:Nat=>[.slot 6 (vI (i:Int)),.slot 7 (vI (jz D i)),.slot 3 (one (.all 10)),.blk 10 (.arr .ft 5 1 (rowsF cU8 (mixZ D i)))]) (fun i=>D.length-i) 0 (by omega) (h:=?_)
   clear hz hj0
   rintro i hi
   have hml:=mixZ_len D i
   have hmr:=rowsF_len cU8 (mixZ D i)
   rw [hml]at hmr
   by_cases hlt:2*i+1<D.length
   ·have hj:jz D i=((D.length-1-i:Nat):Int):=by unfold jz;omega
    have hj1:((D.length-1-i:Nat):Int)-1=jz D (i+1):=by unfold jz;omega
    have ri:=rowZ (mixZ_i hlt)
    have rj:=rowZ (mixZ_j hlt)
    have hs1:=rowsF_set cU8 (mixZ D i) i (D.getD i 0)
    have hs2:=rowsF_set cU8 ((mixZ D i).set i (D.getD i 0)) (D.length-1-i) (D.getD (D.length-1-i) 0)
    rw [mixZ_set hlt]at hs2
    have rj2:(rowsF cU8 ((mixZ D i).set i (D.getD i 0)))[D.length-1-i]?=some [.sc (.int .u8 ((D.getD i 0:Nat):Int))]:=rowZ (by rw [List.getElem?_set_ne (by omega)];exact mixZ_j hlt)
    have hl2:(rowsF cU8 ((mixZ D i).set i (D.getD i 0))).length=D.length:=by rw [rowsF_len,List.length_set,hml]
    simp only [cU8,List.map_cons,List.map_nil]at hs1 hs2
    generalize D.getD i 0=x at*
    generalize D.getD (D.length-1-i) 0=y at*
    clear hml
    refine zR ?_
    refine W.lateB hΓ 13 [[],[],[],[],[],[],[4,5],[4,5,6],[],[],[8,9],[8,9,10],[0,1,4,5,6,7,8,9,10,11],[0,1,4,5,6,7,8,9,10,11,12],[0,1,2,3,4,5,6,7,8,9,10,11,12,13],[0,1,2,3,4,5,6,7,8,9,10,11,12,13,14]] [2,3] (rest:=?rest24) (Es:=?Es24) (st1:=?st124) (stA:=?stA24) (t:=?t24) (x:=?x24) (y:=?y24) (ty:=?ty24) (pos:=?pos24) (after:=?af24) (n:=?n24) (b:=?b24) ?_
    refine zQ ?_
    exact At.roundA (i+1) (by omega) (by omega)
   ·have hall:=mixZ_all hlt
    have hjx:jz D i=(D.length:Int)-1-(i:Int):=rfl
    have hb:=bytes_rows D
    rw [hall]at*
    clear hml hmr
    refine zR ?_
    refine At.retA (by rw [Tryz.results101]) (he:=?_)
    rw [hv]
    rfl
  ·have hln:L.length≤9:=hI.len hm
   obtain⟨k',hnx⟩:=hI.next hm
   have t1:(m:Int).tmod 10=((m%10:Nat):Int):=by rw [Int.tmod_eq_emod_of_nonneg (by omega)];omega
   have t2:(m:Int).tdiv 10=((m/10:Nat):Int):=by rw [Int.tdiv_eq_ediv_of_nonneg (by omega)];omega
   have hlr:L.reverse.length=L.length:=List.length_reverse
   have hap:rowsF cU8 L.reverse++[[.sc (.int .u8 ((48+m%10:Nat):Int))]]=rowsF cU8 ((48+m%10)::L).reverse:=by
    rw [List.reverse_cons]
    exact cU8_app _ _
   clear hI
   have hw:IntKind.u8.wrap (48+((m%10:Nat):Int))=((48+m%10:Nat):Int):=by
    rw [show 48+((m%10:Nat):Int)=((48+m%10:Nat):Int)by omega]
    exact wrap_u8n (by omega)
   refine zR ?_
   exact At.roundA (m/10,k',(48+m%10)::L) hnx (by dsimp only;omega)
 ·skip
  have hnil:([]:List (List Leaf))=rowsF cU8 (([]:List Nat).reverse):=rfl
  refine zJ ?_
  refine W.loopA (DigI n) (fun x=>[.slot 0 (vI (-((n:Nat):Int))),.slot 4 (vI (-((x.1:Nat):Int))),.slot 3 (one (.all 10)),.blk 10 (.arr .ft 5 1 (rowsF cU8 x.2.2.reverse))]) (fun x=>x.1) (n,9,[]) (.inr ⟨by dsimp only;omega,List.append_nil _,by dsimp only;omega,by dsimp only;omega⟩) (h:=?_)
  clear hnil
  rintro⟨m,k,L⟩ hI
  dsimp only
  have hlm:=hI.le
  dsimp only at hlm
  by_cases hm:m=0
  ·subst hm
   have hd:=hI.done
   subst hd
   clear hI
   have hl10:(digL n).length≤10:=digF_len 9 n
   have hlr0:(digL n).reverse.length=(digL n).length:=List.length_reverse
   have hz0:(-((0:Nat):Int))=0:=rfl
   have hap:rowsF cU8 (digL n).reverse++[[.sc (.int .u8 45)]]=rowsF cU8 (45::digL n).reverse:=by
    rw [List.reverse_cons]
    exact cU8_app _ 45
   have hv:45::digL n=decZ (-((n:Nat):Int)):=(decZ_neg hn1).symm
   have hDl:=decZ_len (-((n:Nat):Int))
   rw [←hv]at hDl
   generalize hD:45::digL n=D at hv hDl hap
   have hlr:D.reverse.length=D.length:=List.length_reverse
   replace hv:bsS (decZ (-((n:Nat):Int)))=bsS D:=by rw [hv]
   refine zR ?_
   have hz:=mixZ_zero D
   have hj0:jz D 0=(D.length:Int)-1:=by unfold jz;omega
   refine W.loopA (fun i=>2*i≤D.length+1) (fun i:Nat=>[.slot 6 (vI (i:Int)),.slot 7 (vI (jz D i)),.slot 3 (one (.all 10)),.blk 10 (.arr .ft 5 1 (rowsF cU8 (mixZ D i)))]) (fun i=>D.length-i) 0 (by omega) (h:=?_)
   clear hz hj0
   rintro i hi
   have hml:=mixZ_len D i
   have hmr:=rowsF_len cU8 (mixZ D i)
   rw [hml]at hmr
   by_cases hlt:2*i+1<D.length
   ·have hj:jz D i=((D.length-1-i:Nat):Int):=by unfold jz;omega
    have hj1:((D.length-1-i:Nat):Int)-1=jz D (i+1):=by unfold jz;omega
    have ri:=rowZ (mixZ_i hlt)
    have rj:=rowZ (mixZ_j hlt)
    have hs1:=rowsF_set cU8 (mixZ D i) i (D.getD i 0)
    have hs2:=rowsF_set cU8 ((mixZ D i).set i (D.getD i 0)) (D.length-1-i) (D.getD (D.length-1-i) 0)
    rw [mixZ_set hlt]at hs2
    have rj2:(rowsF cU8 ((mixZ D i).set i (D.getD i 0)))[D.length-1-i]?=some [.sc (.int .u8 ((D.getD i 0:Nat):Int))]:=rowZ (by rw [List.getElem?_set_ne (by omega)];exact mixZ_j hlt)
    have hl2:(rowsF cU8 ((mixZ D i).set i (D.getD i 0))).length=D.length:=by rw [rowsF_len,List.length_set,hml]
    simp only [cU8,List.map_cons,List.map_nil]at hs1 hs2
    generalize D.getD i 0=x at*
    generalize D.getD (D.length-1-i) 0=y at*
    clear hml
    refine zR ?_
    refine W.lateB hΓ 13 [[],[],[],[],[],[],[4,5],[4,5,6],[],[],[8,9],[8,9,10],[0,1,4,5,6,7,8,9,10,11],[0,1,4,5,6,7,8,9,10,11,12],[0,1,2,3,4,5,6,7,8,9,10,11,12,13],[0,1,2,3,4,5,6,7,8,9,10,11,12,13,14]] [2,3] (rest:=?rest33) (Es:=?Es33) (st1:=?st133) (stA:=?stA33) (t:=?t33) (x:=?x33) (y:=?y33) (ty:=?ty33) (pos:=?pos33) (after:=?af33) (n:=?n33) (b:=?b33) ?_
    refine zQ ?_
    exact At.roundA (i+1) (by omega) (by omega)
   ·have hall:=mixZ_all hlt
    have hjx:jz D i=(D.length:Int)-1-(i:Int):=rfl
    have hb:=bytes_rows D
    rw [hall]at*
    clear hml hmr
    refine zR ?_
    refine At.retA (by rw [Tryz.results101]) (he:=?_)
    rw [hv]
    rfl
  ·have hln:L.length≤9:=hI.len hm
   obtain⟨k',hnx⟩:=hI.next hm
   have t1:(-(m:Int)).tmod 10= -((m%10:Nat):Int):=by rw [Int.neg_tmod,Int.tmod_eq_emod_of_nonneg (by omega)];omega
   have t2:(-(m:Int)).tdiv 10= -((m/10:Nat):Int):=by rw [Int.neg_tdiv,Int.tdiv_eq_ediv_of_nonneg (by omega)];omega
   have hnn:(0:Int)- -((m%10:Nat):Int)=((m%10:Nat):Int):=by omega
   have hlr:L.reverse.length=L.length:=List.length_reverse
   have hap:rowsF cU8 L.reverse++[[.sc (.int .u8 ((48+m%10:Nat):Int))]]=rowsF cU8 ((48+m%10)::L).reverse:=by
    rw [List.reverse_cons]
    exact cU8_app _ _
   clear hI
   by_cases hr:m%10≤0
   ·have hw0:IntKind.u8.wrap (48+ -((m%10:Nat):Int))=((48+m%10:Nat):Int):=by
     rw [show 48+ -((m%10:Nat):Int)=((48+m%10:Nat):Int)by omega]
     exact wrap_u8n (by omega)
    refine zR ?_
    exact At.roundA (m/10,k',(48+m%10)::L) hnx (by dsimp only;omega)
   ·have hw:IntKind.u8.wrap (48+((m%10:Nat):Int))=((48+m%10:Nat):Int):=by
     rw [show 48+((m%10:Nat):Int)=((48+m%10:Nat):Int)by omega]
     exact wrap_u8n (by omega)
    refine zR ?_
    exact At.roundA (m/10,k',(48+m%10)::L) hnx (by dsimp only;omega)
end
end Go.Proofs.YtfgkfcfplodaoaaGreatDoor
